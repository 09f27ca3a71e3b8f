/- branch.prover.good: is a leaf good? -/
import Derived.Test.YtbdlfjhhgnhejaaLeaf
namespace Go.Proofs.Ytbdlfjhhgnhejaa
open Go.RowKit
set_option linter.unusedVariables false
set_option linter.unusedSimpArgs false

/-- Is a leaf good for a box? -/
def goodB (a : List (List Int)) (b c : List Int) (cost : Int) (none : Bool) (ys : List Int) (d : Int) (lo hi : List Int) : Bool :=
  leafOk a.length ys d && (decide (0 < boundN a b c ys d 0 lo hi c.length) || (!none && decide ((cost - 1) * d < boundN a b c ys d 1 lo hi c.length)))

set_option maxHeartbeats 400000 in
theorem good1_calls (x : Int) (w : World) : Calls Try.prog 49 #[.int .i64 x] w fun e w' => e = .returned (.bool (!(decide (0 ≤ x) && decide (x ≤ 1099511627776)))) ∧ w' = w := by
  by_cases h : x < 0
  · have hd : decide (x < 0) = true := decide_eq_true h
    go_enter Try.func49, Try.ntmps49
    go_wp2
    go_ret
    exact ⟨by simp [show ¬ (0 ≤ x) by omega], rfl⟩
  · have hd : decide (x < 0) = false := decide_eq_false h
    go_enter Try.func49, Try.ntmps49
    go_wp2
    go_ret
    exact ⟨by by_cases h7 : x ≤ 1099511627776 <;> simp [show (0 ≤ x) by omega, h7] <;> omega, rfl⟩
theorem good1_tells (w : World) (xs : List Int) : Tells 49 #[] (fun x => !(decide (0 ≤ x) && decide (x ≤ 1099511627776))) w xs :=
  ⟨fun _ _ => by kernel_rfl, fun x _ w1 _ => (good1_calls x w1).mono fun e w2 ⟨he, hw⟩ => ⟨he, by rw [hw]; exact Below.refl _ _⟩⟩
theorem proof_any (u : List Int) : (u.any fun x => !(decide (0 ≤ x) && decide (x ≤ 1099511627776))) = !(u.all fun y => decide (0 ≤ y) && decide (y ≤ 1099511627776)) := by
  rw [List.not_all_eq_any_not]

/-- w' is a later world of w. -/
theorem later_alloc {w w' : World} (h : Below w.heap.size w w') (o : Obj) : Below w.heap.size w (w'.alloc o) := h.alloc h.size o

theorem keepS {w2 w' : World} (h : Below w2.heap.size w2 w') : (∀ b o, b < w2.heap.size → w'.cell? ⟨b, o, none⟩ = w2.cell? ⟨b, o, none⟩) ∧ w2.heap.size ≤ w'.heap.size ∧ Below w2.heap.size w2 w' := ⟨(bcell h).1, h.size, h⟩
theorem sub_keeps (p q r : Nat) (x y : Int) (w : World) (hq : p ≠ q) (hp : IntBlk w p) (hx : BigP w q x) (hy : BigP w r y) (wx : Wide x) (wy : Wide y) :
    Calls Try.prog 54 #[.pointer (some ⟨p, 0, none⟩), .pointer (some ⟨q, 0, none⟩), .pointer (some ⟨r, 0, none⟩)] w fun e w' => e = .returned (.pointer (some ⟨p, 0, none⟩)) ∧ BigP w' p (x - y) ∧ But p w w' ∧ Hid (∀ q z, BigP w q z → q ≠ p → BigP w' q z) ∧ Hid (∀ q, IntBlk w q → q ≠ p → IntBlk w' q) :=
  (sub_calls p q r x y w hq hp hx hy wx wy).mono fun _ _ ⟨h1, h2, h3⟩ => ⟨h1, h2, h3, Lib.hid fun _ _ h hn => h.but hp h3 hn, Lib.hid fun _ h hn => h.other h3 hn⟩
theorem mul_keeps (p q r : Nat) (x y : Int) (w : World) (hq : p ≠ q) (hr : p ≠ r) (hp : IntBlk w p) (hx : BigP w q x) (hy : BigP w r y) (wx : x.natAbs < 18446744073709551616) (wy : y.natAbs < 18446744073709551616) :
    Calls Try.prog 53 #[.pointer (some ⟨p, 0, none⟩), .pointer (some ⟨q, 0, none⟩), .pointer (some ⟨r, 0, none⟩)] w fun e w' => e = .returned (.pointer (some ⟨p, 0, none⟩)) ∧ BigP w' p (x * y) ∧ But p w w' ∧ Hid (∀ q z, BigP w q z → q ≠ p → BigP w' q z) ∧ Hid (∀ q, IntBlk w q → q ≠ p → IntBlk w' q) :=
  (mul_calls p q r x y w hq hr hp hx hy wx wy).mono fun _ _ ⟨h1, h2, h3⟩ => ⟨h1, h2, h3, Lib.hid fun _ _ h hn => h.but hp h3 hn, Lib.hid fun _ h hn => h.other h3 hn⟩
theorem sgn_pos (x y : Int) : decide (0 < sgnI x y) = decide (y < x) := by
  unfold sgnI; split <;> (try split) <;> first | (rw [decide_eq_false (show ¬ y < x by omega)]; rfl) | (rw [decide_eq_true (show y < x by omega)]; rfl)
theorem wide_small {z : Int} (h : z.natAbs < 18446744073709551616) : Wide z := by
  unfold Wide; have := digits_small.2 h; omega
theorem intFresh (w : World) : IntBlk (w.alloc (.cells #[.bool false, .slice none 0 0] 96 (0, 0))) w.heap.size := ⟨false, none, 0, 0, Blk.new w [.bool false, .slice none 0 0] _⟩
/-- w' comes behind w2. -/
structure Late (w2 w' : World) : Prop where
  out : Below w2.heap.size w2 w'
theorem intFresh' (w : World) (b : Nat) (h : w.heap.size = b) : IntBlk (w.alloc (.cells #[.bool false, .slice none 0 0] 96 (0, 0))) b := by subst h; exact intFresh w
theorem BigP.alloc {w : World} {p : Nat} {z : Int} (h : BigP w p z) (o : Obj) : BigP (w.alloc o) p z := h.ext ((Below.refl _ _).alloc (Nat.le_refl _) _)
theorem IntBlk.alloc {w : World} {p : Nat} (h : IntBlk w p) (o : Obj) : IntBlk (w.alloc o) p := h.ext ((Below.refl _ _).alloc (Nat.le_refl _) _)
theorem size_drew (w : World) : w.drew.heap.size = w.heap.size := rfl
theorem size_alloc (w : World) (o : Obj) : (w.alloc o).heap.size = w.heap.size + 1 := by simp

set_option maxRecDepth 100000 in
set_option maxHeartbeats 4000000 in
theorem good_calls (r : Nat) (A B C U Y : Option Addr) (ca cb cc cu cy : Nat) (a : List (List Int)) (b c u ys : List Int) (cost d va at' : Int) (none : Bool) (l0 l1 l2 l3 l4 h0 h1 h2 h3 h4 : Int) (w : World)
    (hp : PrAt w r A B C U ca cb cc cu a b c u cost none) (hw : Who w A B C U a b c u) (hY : Ints w Y ys) (hy : ys.length ≤ maxLen) (hok : progOk a b c = true) (hc5 : c.length ≤ 5) (hlo : EndsOk [l0, l1, l2, l3, l4]) (hhi : EndsOk [h0, h1, h2, h3, h4])
    (hcost : -9223372036854775808 ≤ cost ∧ cost ≤ 9223372036854775807) :
    Calls Try.prog 35 #[.pointer (some ⟨r, 0, .none⟩), .agg #[.int .i64 va, .int .i64 at', .slice Y ys.length cy, .int .i64 d], .agg #[.int .i64 l0, .int .i64 l1, .int .i64 l2, .int .i64 l3, .int .i64 l4, .int .i64 h0, .int .i64 h1, .int .i64 h2, .int .i64 h3, .int .i64 h4]] w fun e w' =>
      e = .returned (.bool (goodB a b c cost none ys d [l0, l1, l2, l3, l4] [h0, h1, h2, h3, h4])) ∧ Below w.heap.size w w' := by
  obtain ⟨k0, k1, k2, k3, k4, k5, k6⟩ := id hp
  have rl := hp.lt
  have hxl := hy
  have hla := hw.p.la
  unfold maxLen at hy hla
  have hbe : Below w.heap.size w ((w.alloc (.cells #[.int .i64 va, .int .i64 at', .slice Y ys.length cy, .int .i64 d] 34 (0, 0))).alloc (.cells #[.int .i64 l0, .int .i64 l1, .int .i64 l2, .int .i64 l3, .int .i64 l4, .int .i64 h0, .int .i64 h1, .int .i64 h2, .int .i64 h3, .int .i64 h4] 57 (0, 0))) := ((Below.refl _ _).alloc (Nat.le_refl _) _).alloc (by simp) _
  obtain ⟨G, hG⟩ : ∃ G, Hid (goodB a b c cost none ys d [l0, l1, l2, l3, l4] [h0, h1, h2, h3, h4] = G) := ⟨_, rfl⟩
  rw [hG.out]
  have hlf : Hid (leafOk a.length ys d = (decide (ys.length = a.length) && decide (1 ≤ d) && decide (d ≤ 1099511627776) && ys.all fun y => decide (0 ≤ y) && decide (y ≤ 1099511627776))) := Lib.hid rfl
  have B0 : Blk ((w.alloc (.cells #[.int .i64 va, .int .i64 at', .slice Y ys.length cy, .int .i64 d] 34 (0, 0))).alloc (.cells #[.int .i64 l0, .int .i64 l1, .int .i64 l2, .int .i64 l3, .int .i64 l4, .int .i64 h0, .int .i64 h1, .int .i64 h2, .int .i64 h3, .int .i64 h4] 57 (0, 0))) w.heap.size [.int .i64 va, .int .i64 at', .slice Y ys.length cy, .int .i64 d] 34 := (Blk.new w _ _).alloc _
  have B1 : Blk ((w.alloc (.cells #[.int .i64 va, .int .i64 at', .slice Y ys.length cy, .int .i64 d] 34 (0, 0))).alloc (.cells #[.int .i64 l0, .int .i64 l1, .int .i64 l2, .int .i64 l3, .int .i64 l4, .int .i64 h0, .int .i64 h1, .int .i64 h2, .int .i64 h3, .int .i64 h4] 57 (0, 0))) (w.heap.size + 1) [.int .i64 l0, .int .i64 l1, .int .i64 l2, .int .i64 l3, .int .i64 l4, .int .i64 h0, .int .i64 h1, .int .i64 h2, .int .i64 h3, .int .i64 h4] 57 := Blk.new' _ _ _ _ (by simp)
  have HP := Lib.hid hp
  by_cases e1 : ys.length = a.length
  · have d1 : ((ys.length : Int) != (a.length : Int)) = false := by simp [e1]
    have E1 := Lib.hid e1; clear e1
    by_cases e2 : d < 1
    · have d2 : decide (d < 1) = true := decide_eq_true e2
      go_enter Try.func35, Try.ntmps35
      go_wp2_with fail
      go_quiet (fail)
      go_wp2_with fail
      go_ret
      exact ⟨by rw [← hG.out]; unfold goodB; rw [hlf.out, decide_eq_false (show ¬ (1 ≤ d) by omega)]; simp, ext_trans hbe (drewN_below _ _)⟩
    · have d2 : decide (d < 1) = false := decide_eq_false e2
      by_cases e3 : 1099511627776 < d
      · have d3 : decide (1099511627776 < d) = true := decide_eq_true e3
        go_enter Try.func35, Try.ntmps35
        go_wp2_with fail
        go_quiet (fail)
        go_wp2_with fail
        go_ret
        exact ⟨by rw [← hG.out]; unfold goodB; rw [hlf.out, decide_eq_false (show ¬ (d ≤ 1099511627776) by omega)]; simp, ext_trans hbe (drewN_below _ _)⟩
      · have d3 : decide (1099511627776 < d) = false := decide_eq_false e3
        go_enter Try.func35, Try.ntmps35
        go_wp2_with fail
        have hp2 := hp.ext hbe
        clear k0 k1 k2 k3 k4 k5 k6 hp
        generalize ((w.alloc (.cells #[.int .i64 va, .int .i64 at', .slice Y ys.length cy, .int .i64 d] 34 (0, 0))).alloc (.cells #[.int .i64 l0, .int .i64 l1, .int .i64 l2, .int .i64 l3, .int .i64 l4, .int .i64 h0, .int .i64 h1, .int .i64 h2, .int .i64 h3, .int .i64 h4] 57 (0, 0))) = W at *
        obtain ⟨k0, k1, k2, k3, k4, k5, k6⟩ := id hp2
        have n0 : W.cell? ⟨w.heap.size, 0, .none⟩ = some (.int .i64 va) := B0.cell 0 (by simp)
        have n1 : W.cell? ⟨w.heap.size, 1, .none⟩ = some (.int .i64 at') := B0.cell 1 (by simp)
        have n2 : W.cell? ⟨w.heap.size, 2, .none⟩ = some (.slice Y ys.length cy) := B0.cell 2 (by simp)
        have n3 : W.cell? ⟨w.heap.size, 3, .none⟩ = some (.int .i64 d) := B0.cell 3 (by simp)
        go_still_tail 24, (by kernel_rfl)
        change wpList _ _ _ _ _ W.drew
        go_wp2_with fail
        refine (containsFunc_int _ _ _ _ _ ys _ hxl (hY.ext (ext_trans hbe (Below.refl _ _).drew)) (good1_tells _ ys)).mono ?_
        rw [proof_any]
        rintro e w1 ⟨rfl, hb1⟩
        have hx1 : Below W.heap.size W w1 := ext_trans (Below.refl _ _).drew hb1
        cases hall : (ys.all fun y => decide (0 ≤ y) && decide (y ≤ 1099511627776))
        · go_wp2_with fail
          go_ret
          exact ⟨by rw [← hG.out]; unfold goodB; rw [hlf.out, hall]; simp, ext_trans hbe hx1⟩
        · have hok2 : leafOk a.length ys d = true := by
            rw [hlf.out, hall, decide_eq_true E1.out, decide_eq_true (show 1 ≤ d by omega), decide_eq_true (show d ≤ 1099511627776 by omega)]; rfl
          have hf0 : LeafFit a b c ys d 0 [l0, l1, l2, l3, l4] [h0, h1, h2, h3, h4] := ⟨hok, hc5, hok2, by omega, hlo, hhi⟩
          have hf1 : LeafFit a b c ys d 1 [l0, l1, l2, l3, l4] [h0, h1, h2, h3, h4] := ⟨hok, hc5, hok2, by omega, hlo, hhi⟩
          have hgb := hG.out
          unfold goodB at hgb
          rw [hok2, Bool.true_and] at hgb
          have hbd := fun w hp hw hY => bound_calls r A B C U Y ca cb cc cu cy a b c u ys cost d 0 va at' none l0 l1 l2 l3 l4 h0 h1 h2 h3 h4 w hp hw hY hxl hf0
          have hbd1 := fun w hp hw hY => bound_calls r A B C U Y ca cb cc cu cy a b c u ys cost d 1 va at' none l0 l1 l2 l3 l4 h0 h1 h2 h3 h4 w hp hw hY hxl hf1
          have hs0 := hf0.bound c.length (Nat.le_refl _)
          have hs1 := hf1.bound c.length (Nat.le_refl _)
          generalize boundN a b c ys d 0 [l0, l1, l2, l3, l4] [h0, h1, h2, h3, h4] c.length = S0 at *
          generalize boundN a b c ys d 1 [l0, l1, l2, l3, l4] [h0, h1, h2, h3, h4] c.length = S1 at *
          have HC5 := Lib.hid hc5
          have HBD := Lib.hid hbd; have HBD1 := Lib.hid hbd1; have HGB := Lib.hid hgb
          have hx0 := ext_trans hbe hx1
          have hp1 := hp2.ext hx1
          have hw1 := hw.ext hx0
          have hY1 := hY.ext hx0
          have C0 := B0.ext hx1
          have C1 := B1.ext hx1
          clear hbd hbd1 hgb hp2 B0 B1 k0 k1 k2 k3 k4 k5 k6 n0 n1 n2 n3 hbe hx1 hb1 hw hY hok hc5 hlo hhi hf0 hf1 hall d1 d2 d3
          have n0 : w1.cell? ⟨w.heap.size, 0, .none⟩ = some (.int .i64 va) := C0.cell 0 (by simp)
          have n1 : w1.cell? ⟨w.heap.size, 1, .none⟩ = some (.int .i64 at') := C0.cell 1 (by simp)
          have n2 : w1.cell? ⟨w.heap.size, 2, .none⟩ = some (.slice Y ys.length cy) := C0.cell 2 (by simp)
          have n3 : w1.cell? ⟨w.heap.size, 3, .none⟩ = some (.int .i64 d) := C0.cell 3 (by simp)
          have b0 : w1.cell? ⟨w.heap.size + 1, 0, .none⟩ = some (.int .i64 l0) := C1.cell 0 (by simp)
          have b1 : w1.cell? ⟨w.heap.size + 1, 1, .none⟩ = some (.int .i64 l1) := C1.cell 1 (by simp)
          have b2 : w1.cell? ⟨w.heap.size + 1, 2, .none⟩ = some (.int .i64 l2) := C1.cell 2 (by simp)
          have b3 : w1.cell? ⟨w.heap.size + 1, 3, .none⟩ = some (.int .i64 l3) := C1.cell 3 (by simp)
          have b4 : w1.cell? ⟨w.heap.size + 1, 4, .none⟩ = some (.int .i64 l4) := C1.cell 4 (by simp)
          have b5 : w1.cell? ⟨w.heap.size + 1, 5, .none⟩ = some (.int .i64 h0) := C1.cell 5 (by simp)
          have b6 : w1.cell? ⟨w.heap.size + 1, 6, .none⟩ = some (.int .i64 h1) := C1.cell 6 (by simp)
          have b7 : w1.cell? ⟨w.heap.size + 1, 7, .none⟩ = some (.int .i64 h2) := C1.cell 7 (by simp)
          have b8 : w1.cell? ⟨w.heap.size + 1, 8, .none⟩ = some (.int .i64 h3) := C1.cell 8 (by simp)
          have b9 : w1.cell? ⟨w.heap.size + 1, 9, .none⟩ = some (.int .i64 h4) := C1.cell 9 (by simp)
          have nl := C0.lt
          have bl := C1.lt
          have rl1 := hp1.lt
          obtain ⟨k0, k1, k2, k3, k4, k5, k6⟩ := id hp1
          go_wp2_with fail
          refine (HBD.out _ hp1 hw1 hY1).mono ?_; rintro e w2 ⟨rfl, hb2⟩
          have hx2 := ext_trans hx0 hb2
          have hp2 := hp1.ext hb2
          have hw2 := hw1.ext hb2
          have hY2 := hY1.ext hb2
          have D0 := C0.ext hb2
          have D1 := C1.ext hb2
          clear n0 n1 n2 n3 b0 b1 b2 b3 b4 b5 b6 b7 b8 b9 k0 k1 k2 k3 k4 k5 k6 hb2 C0 C1 hp1 hw1 hY1 nl bl rl1 hx0
          cases hz : decide (0 < S0)
          · rw [hz, Bool.false_or] at HGB
            have HZ := Lib.hid hz
            clear hz
            have n0 : w2.cell? ⟨w.heap.size, 0, .none⟩ = some (.int .i64 va) := D0.cell 0 (by simp)
            have n1 : w2.cell? ⟨w.heap.size, 1, .none⟩ = some (.int .i64 at') := D0.cell 1 (by simp)
            have n2 : w2.cell? ⟨w.heap.size, 2, .none⟩ = some (.slice Y ys.length cy) := D0.cell 2 (by simp)
            have n3 : w2.cell? ⟨w.heap.size, 3, .none⟩ = some (.int .i64 d) := D0.cell 3 (by simp)
            have b0 : w2.cell? ⟨w.heap.size + 1, 0, .none⟩ = some (.int .i64 l0) := D1.cell 0 (by simp)
            have b1 : w2.cell? ⟨w.heap.size + 1, 1, .none⟩ = some (.int .i64 l1) := D1.cell 1 (by simp)
            have b2 : w2.cell? ⟨w.heap.size + 1, 2, .none⟩ = some (.int .i64 l2) := D1.cell 2 (by simp)
            have b3 : w2.cell? ⟨w.heap.size + 1, 3, .none⟩ = some (.int .i64 l3) := D1.cell 3 (by simp)
            have b4 : w2.cell? ⟨w.heap.size + 1, 4, .none⟩ = some (.int .i64 l4) := D1.cell 4 (by simp)
            have b5 : w2.cell? ⟨w.heap.size + 1, 5, .none⟩ = some (.int .i64 h0) := D1.cell 5 (by simp)
            have b6 : w2.cell? ⟨w.heap.size + 1, 6, .none⟩ = some (.int .i64 h1) := D1.cell 6 (by simp)
            have b7 : w2.cell? ⟨w.heap.size + 1, 7, .none⟩ = some (.int .i64 h2) := D1.cell 7 (by simp)
            have b8 : w2.cell? ⟨w.heap.size + 1, 8, .none⟩ = some (.int .i64 h3) := D1.cell 8 (by simp)
            have b9 : w2.cell? ⟨w.heap.size + 1, 9, .none⟩ = some (.int .i64 h4) := D1.cell 9 (by simp)
            have nl := D0.lt
            have bl := D1.lt
            have rl2 := hp2.lt
            obtain ⟨k0, k1, k2, k3, k4, k5, k6⟩ := id hp2
            have hz2 : decide (0 < S0) = false := HZ.out
            go_upto_region 5 with (fail)
            cases none
            · have hwc : Wide cost := wide_small (by omega)
              have hw1c : Wide 1 := wide_small (by omega)
              have hl5 : (c.length : Int) ≤ 5 := by have := HC5.out; omega
              go_cut [6] (fun s wx => s = .bool G ∧ Below w2.heap.size w2 wx)
              case first =>
                have hdr : w2.heap.size ≤ w2.drew.heap.size := Nat.le_refl _
                have hlate : Late w2 w2.drew := Late.mk ((Below.refl _ _).drew)
                obtain ⟨Q, hQ⟩ : ∃ Q, Hid (sgnI S1 ((cost - 1) * d) = Q) := ⟨_, rfl⟩
                have hcm : Hid (∀ p q w, BigP w p S1 → BigP w q ((cost - 1) * d) → Calls Try.prog 52 #[.pointer (some ⟨p, 0, .none⟩), .pointer (some ⟨q, 0, .none⟩)] w fun e w' => e = .returned (.int .i64 Q) ∧ ∃ k, w' = w.drewN k) := Lib.hid fun p q w h1 h2 => by rw [← hQ.out]; exact cmp_calls p q _ _ w h1 h2
                have hdq : decide (0 < Q) = G := by rw [← hQ.out, sgn_pos, ← HGB.out]; rfl
                go_region_held3 (fun w' => (∀ b o, b < w2.heap.size → w'.cell? ⟨b, o, .none⟩ = w2.cell? ⟨b, o, .none⟩) ∧ w2.heap.size ≤ w'.heap.size ∧ Below w2.heap.size w2 w')
                  (first | assumption | exact keepS hlate.out | exact keepS (later_alloc (Below.refl _ w2) _).drew | exact keepS (later_alloc (later_alloc (Below.refl _ w2) _) _).drew | exact keepS (later_alloc (‹_ ∧ _ ∧ Below w2.heap.size w2 _›).2.2 _))
                  (first
                    | (go_at_call 50; refine (HBD1.out _ (hp2.ext (‹_ ∧ _ ∧ Below w2.heap.size w2 _›).2.2) (hw2.ext (‹_ ∧ _ ∧ Below w2.heap.size w2 _›).2.2) (hY2.ext (‹_ ∧ _ ∧ Below w2.heap.size w2 _›).2.2)).mono ?_; rintro e w3 ⟨rfl, hb3⟩; have hlate : Late w2 w3 := Late.mk (ext_trans (‹_ ∧ _ ∧ Below w2.heap.size w2 _›).2.2 hb3); have hsz := hb3.size; try simp only [size_drew, size_alloc] at hsz)
                    | (go_at_call 51; refine (newInt_calls _ _ (by omega) (by omega)).mono ?_; rintro e w4 ⟨p, rfl, hple, hpz, hb4⟩; have hlate : Late w2 w4 := Late.mk (ext_trans (‹_ ∧ _ ∧ Below w2.heap.size w2 _›).2.2 hb4); have hsz := hb4.size; have hplt := hpz.lt; try simp only [size_drew, size_alloc] at hsz hple)
                    | (go_at_call 54; refine (sub_keeps _ _ _ cost 1 _ (by omega) (by (repeat (first | assumption | exact intFresh _ | (refine intFresh' _ _ ?_; rw [size_alloc]; done) | refine BigP.alloc ?_ _ | refine IntBlk.alloc ?_ _ | (refine hkm.out _ _ ?_ ?_; rotate_left; omega) | (refine hks.out _ _ ?_ ?_; rotate_left; omega) | (refine hjs.out _ ?_ ?_; rotate_left; omega) | refine BigP.ext ?_ (by assumption) | refine IntBlk.ext ?_ (by assumption)))) (by (repeat (first | assumption | exact intFresh _ | (refine intFresh' _ _ ?_; rw [size_alloc]; done) | refine BigP.alloc ?_ _ | refine IntBlk.alloc ?_ _ | (refine hkm.out _ _ ?_ ?_; rotate_left; omega) | (refine hks.out _ _ ?_ ?_; rotate_left; omega) | (refine hjs.out _ ?_ ?_; rotate_left; omega) | refine BigP.ext ?_ (by assumption) | refine IntBlk.ext ?_ (by assumption)))) (by (repeat (first | assumption | exact intFresh _ | (refine intFresh' _ _ ?_; rw [size_alloc]; done) | refine BigP.alloc ?_ _ | refine IntBlk.alloc ?_ _ | (refine hkm.out _ _ ?_ ?_; rotate_left; omega) | (refine hks.out _ _ ?_ ?_; rotate_left; omega) | (refine hjs.out _ ?_ ?_; rotate_left; omega) | refine BigP.ext ?_ (by assumption) | refine IntBlk.ext ?_ (by assumption)))) hwc hw1c).mono ?_; rintro e w5 ⟨rfl, hpz, hb5, hks, hjs⟩; have hlate : Late w2 w5 := Late.mk (((‹_ ∧ _ ∧ Below w2.heap.size w2 _›).2.2).trans (hb5.below (by omega) (by first | assumption | omega | (simp; omega)))); have hsz := hb5.size; have hplt := hpz.lt; try simp only [size_drew, size_alloc] at hsz)
                    | (go_at_call 53; refine (mul_keeps _ _ _ (cost - 1) d _ (by omega) (by omega) (by (repeat (first | assumption | exact intFresh _ | (refine intFresh' _ _ ?_; rw [size_alloc]; done) | refine BigP.alloc ?_ _ | refine IntBlk.alloc ?_ _ | (refine hkm.out _ _ ?_ ?_; rotate_left; omega) | (refine hks.out _ _ ?_ ?_; rotate_left; omega) | (refine hjs.out _ ?_ ?_; rotate_left; omega) | refine BigP.ext ?_ (by assumption) | refine IntBlk.ext ?_ (by assumption)))) (by (repeat (first | assumption | exact intFresh _ | (refine intFresh' _ _ ?_; rw [size_alloc]; done) | refine BigP.alloc ?_ _ | refine IntBlk.alloc ?_ _ | (refine hkm.out _ _ ?_ ?_; rotate_left; omega) | (refine hks.out _ _ ?_ ?_; rotate_left; omega) | (refine hjs.out _ ?_ ?_; rotate_left; omega) | refine BigP.ext ?_ (by assumption) | refine IntBlk.ext ?_ (by assumption)))) (by (repeat (first | assumption | exact intFresh _ | (refine intFresh' _ _ ?_; rw [size_alloc]; done) | refine BigP.alloc ?_ _ | refine IntBlk.alloc ?_ _ | (refine hkm.out _ _ ?_ ?_; rotate_left; omega) | (refine hks.out _ _ ?_ ?_; rotate_left; omega) | (refine hjs.out _ ?_ ?_; rotate_left; omega) | refine BigP.ext ?_ (by assumption) | refine IntBlk.ext ?_ (by assumption)))) (by omega) (by omega)).mono ?_; rintro e w6 ⟨rfl, hpz, hb6, hkm, hjm⟩; have hlate : Late w2 w6 := Late.mk (((‹_ ∧ _ ∧ Below w2.heap.size w2 _›).2.2).trans (hb6.below (by omega) (by first | assumption | omega | (simp; omega)))); have hsz := hb6.size; have hplt := hpz.lt; try simp only [size_drew, size_alloc] at hsz)
                    | (go_at_call 52; refine (hcm.out _ _ _ (by (repeat (first | assumption | exact intFresh _ | (refine intFresh' _ _ ?_; rw [size_alloc]; done) | refine BigP.alloc ?_ _ | refine IntBlk.alloc ?_ _ | (refine hkm.out _ _ ?_ ?_; rotate_left; omega) | (refine hks.out _ _ ?_ ?_; rotate_left; omega) | (refine hjs.out _ ?_ ?_; rotate_left; omega) | refine BigP.ext ?_ (by assumption) | refine IntBlk.ext ?_ (by assumption)))) (by (repeat (first | assumption | exact intFresh _ | (refine intFresh' _ _ ?_; rw [size_alloc]; done) | refine BigP.alloc ?_ _ | refine IntBlk.alloc ?_ _ | (refine hkm.out _ _ ?_ ?_; rotate_left; omega) | (refine hks.out _ _ ?_ ?_; rotate_left; omega) | (refine hjs.out _ ?_ ?_; rotate_left; omega) | refine BigP.ext ?_ (by assumption) | refine IntBlk.ext ?_ (by assumption))))).mono ?_; rintro e w7 ⟨rfl, nk, rfl⟩; have hlate : Late w2 _ := Late.mk (ext_trans (‹_ ∧ _ ∧ Below w2.heap.size w2 _›).2.2 (drewN_below _ nk))))
                all_goals
                  go_wp2_with fail
                  go_meet
                  exact ⟨by first | rfl | rw [hdq], (‹_ ∧ _ ∧ Below w2.heap.size w2 _›).2.2⟩
              case rest =>
                obtain ⟨rfl, hxx⟩ := hcut
                go_wp2_with fail
                go_ret
                exact ⟨rfl, ext_trans hx2 hxx⟩
            · go_quiet (fail)
              go_wp2_with fail
              go_ret
              exact ⟨by rw [← HGB.out]; rfl, ext_trans hx2 (drewN_below _ _)⟩
          · go_wp2_with fail
            go_ret
            exact ⟨by rw [← HGB.out, hz]; rfl, hx2⟩
  · have d1 : ((ys.length : Int) != (a.length : Int)) = true := by simp; omega
    have E1 := Lib.hid e1; clear e1
    go_enter Try.func35, Try.ntmps35
    go_wp2_with fail
    go_quiet (fail)
    go_wp2_with fail
    go_ret
    exact ⟨by rw [← hG.out]; unfold goodB; rw [hlf.out, decide_eq_false E1.out]; simp, ext_trans hbe (drewN_below _ _)⟩
end Go.Proofs.Ytbdlfjhhgnhejaa
