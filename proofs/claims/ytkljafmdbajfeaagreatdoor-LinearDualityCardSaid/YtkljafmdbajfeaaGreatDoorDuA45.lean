/- linear.times: what it answers. -/
import Derived.Test.YtkljafmdbajfeaaGreatDoorDuA10
import Derived.Test.YtkljafmdbajfeaaGreatDoorDuA44
namespace Go.Proofs.YtkljafmdbajfeaaGreatDoor
open Go.RowKit Go.ChangeMaps
set_option linter.unusedVariables false
set_option linter.unusedSimpArgs false
end Go.Proofs.YtkljafmdbajfeaaGreatDoor

/- linear.dual and linear.Falls: what they answer. -/
namespace Go.Proofs.YtkljafmdbajfeaaGreatDoor
open Go.RowKit
set_option linter.unusedVariables false
set_option linter.unusedSimpArgs false
end Go.Proofs.YtkljafmdbajfeaaGreatDoor

/- linear.Bounds and linear.Denies: what they answer. -/
namespace Go.Proofs.YtkljafmdbajfeaaGreatDoor
open Go.RowKit
set_option linter.unusedVariables false
set_option linter.unusedSimpArgs false
end Go.Proofs.YtkljafmdbajfeaaGreatDoor

/- tinplatelaw01.few and light: what they answer. -/
namespace Go.Proofs.YtkljafmdbajfeaaGreatDoor
open Go.RowKit
set_option linter.unusedVariables false
set_option linter.unusedSimpArgs false
def fewB (a : List (List Int)) (b : List Int) : Bool := decide (a.length ≤ 30) && ((List.range a.length).all fun i => decide ((nrow a i).length ≤ 30)) && decide (b.length ≤ 30)
set_option maxHeartbeats 1000000 in
theorem few_calls (A B : Option Addr) (ca cb : Nat) (a : List (List Int)) (b : List Int) (w : World) (hA : Grid w A a) (hl : a.length ≤ maxLen) (hr : ∀ r ∈ a, r.length ≤ maxLen) (hb : b.length ≤ maxLen) :
  Calls Tryz.prog 29 #[.slice A a.length ca, .slice B b.length cb] w fun e w' => e = .returned (.bool (fewB a b)) ∧ w' = w := by
 unfold maxLen at hl hb
 have HR := Lib.hid hr
 clear hr
 go_enter Tryz.func29, Tryz.ntmps29
 go_wp2
 go_loop [5] (fun i => ∃ k : Nat, k ≤ a.length ∧ i = .int .i64 k ∧ k ≤ 30 ∧ ∀ j, j < k → (nrow a j).length ≤ 30) (fun i => a.length - (intOf i).toNat)
 case atStart => exact ⟨0, Nat.zero_le _, rfl, Nat.zero_le _, fun j hj => by omega⟩
 case round =>
  obtain ⟨k, hk, rfl, h30, hall⟩ := hrel
  have HA := Lib.hid hall; clear hall
  by_cases hlt : k < a.length
  ·obtain ⟨bb, o, R, cR, rfl, hrc, -, -⟩ := hA k hlt
   have hk1 : (k : Int) < a.length := by omega
   have hrl := HR.out _ (nrow_mem hlt)
   unfold maxLen at hrl
   by_cases h3 : k = 30
   ·have d3 : decide (30 ≤ (k : Int)) = true := decide_eq_true (by omega)
    have H3 := Lib.hid h3
    clear h3
    go_wp2
    go_ret
    exact ⟨by have := H3.out; unfold fewB; rw [decide_eq_false (show ¬ a.length ≤ 30 by omega)]; rfl, rfl⟩
   ·have d3 : decide (30 ≤ (k : Int)) = false := decide_eq_false (by omega)
    by_cases h4 : (nrow a k).length ≤ 30
    ·have d4 : decide (30 < ((nrow a k).length : Int)) = false := decide_eq_false (by omega)
     have H4 := Lib.hid h4
     clear h4
     go_wp2
     go_round
     case rel => exact ⟨k + 1, by omega, by go_num, by omega, fun j hj => if e : j = k then by rw [e]; exact H4.out else HA.out j (by omega)⟩
     case measure => simp [intOf]; omega
    ·have d4 : decide (30 < ((nrow a k).length : Int)) = true := decide_eq_true (by omega)
     have H4 := Lib.hid h4
     clear h4
     go_wp2
     go_ret
     exact ⟨by unfold fewB; rw [all_range_false hlt (decide_eq_false H4.out), Bool.and_false]; rfl, rfl⟩
  ·obtain rfl : k = a.length := by omega
   have hd : decide ((b.length : Int) ≤ 30) = decide (b.length ≤ 30) := by rw [decide_eq_decide]; omega
   have H30 := Lib.hid h30; have HD := Lib.hid hd
   clear hd h30
   go_wp2
   go_ret
   exact ⟨by unfold fewB; rw [decide_eq_true H30.out, all_range_true fun i hi => decide_eq_true (HA.out i hi), ← HD.out]; rfl, rfl⟩
set_option maxHeartbeats 1000000 in
theorem lightL_calls (A B C : Option Addr) (ca cb cc : Nat) (a : List (List Int)) (b c : List Int) (w : World) (h : Prog3 w A B C a b c) :
  Calls Tryz.prog 14 #[.agg #[.slice A a.length ca, .slice B b.length cb, .slice C c.length cc]] w fun e w' => e = .returned (.bool (fewB a b && decide (c.length ≤ 30))) ∧ Below w.heap.size w w' := by
 have hlc := h.lc; unfold maxLen at hlc
 have hb0 : ∀ o, Below w.heap.size w (w.alloc o) := fun o => (Below.refl _ _).alloc (Nat.le_refl _) _
 have hd : decide ((c.length : Int) ≤ 30) = decide (c.length ≤ 30) := by rw [decide_eq_decide]; omega
 have HD := Lib.hid hd
 clear hd
 cases hf : fewB a b with
 | false =>
   have HF := Lib.hid hf; clear hf
   go_enter Tryz.func14, Tryz.ntmps14
   go_wp2_with (go_at_call 29; refine (few_calls _ _ _ _ a b _ (h.ga.ext (hb0 _)) h.la h.lr h.lb).mono ?_; rw [HF.out]; rintro e w1 ⟨rfl, rfl⟩)
   go_ret
   exact ⟨rfl, hb0 _⟩
 | true =>
   have HF := Lib.hid hf; clear hf
   go_enter Tryz.func14, Tryz.ntmps14
   go_wp2_with (go_at_call 29; refine (few_calls _ _ _ _ a b _ (h.ga.ext (hb0 _)) h.la h.lr h.lb).mono ?_; rw [HF.out]; rintro e w1 ⟨rfl, rfl⟩)
   go_ret
   exact ⟨by rw [Bool.true_and, ← HD.out]; rfl, hb0 _⟩
end Go.Proofs.YtkljafmdbajfeaaGreatDoor

/- tinplateref01.gcd: what it answers. -/
namespace Go.Proofs.YtkljafmdbajfeaaGreatDoor
open Go.RowKit
set_option linter.unusedVariables false
set_option linter.unusedSimpArgs false
set_option maxHeartbeats 1000000 in
theorem gcd1_calls (a b : Int) (w : World) (ha : -9000000000000000000 ≤ a ∧ a ≤ 9000000000000000000) (hb : -9000000000000000000 ≤ b ∧ b ≤ 9000000000000000000) :
  Calls Tryz.prog 71 #[.int .i64 a, .int .i64 b] w fun e w' => e = .returned (.int .i64 (Int.gcd a b)) ∧ Below w.heap.size w w' := by
 obtain ⟨x1, x2⟩ := ha
 obtain ⟨x3, x4⟩ := hb
 go_enter Tryz.func71, Tryz.ntmps71
 go_wp2
 go_loopw [0, 1] (fun g nn wr => ∃ (m : Nat) (gv nv : Int), g = .int .i64 gv ∧ nn = .int .i64 nv ∧ Nat.gcd gv.natAbs nv.natAbs = Nat.gcd a.natAbs b.natAbs ∧ -9000000000000000000 ≤ gv ∧ gv ≤ 9000000000000000000 ∧ -9000000000000000000 ≤ nv ∧ nv ≤ 9000000000000000000 ∧ wr = w.drewN m) (fun _ nn _ => (intOf nn).natAbs)
 case atStart => exact ⟨0, a, b, rfl, rfl, rfl, x1, x2, x3, x4, rfl⟩
 case round =>
  obtain ⟨m, gv, nv, rfl, rfl, hgg, y1, y2, y3, y4, rfl⟩ := hrel
  have HGG := Lib.hid hgg; clear hgg
  by_cases h0 : nv = 0
  ·subst h0
   have HG : Hid (gv.natAbs = Nat.gcd a.natAbs b.natAbs) := Lib.hid (by rw [← HGG.out]; simp)
   obtain ⟨G, hG⟩ : ∃ G : Nat, gv.natAbs = G := ⟨_, rfl⟩
   have hGc : gv = (G : Int) ∨ gv = -(G : Int) := by omega
   have HG2 := Lib.hid hG
   clear hG HGG
   rcases hGc with rfl | rfl
   all_goals
    go_wp2
    go_ret
    refine ⟨?_, drewN_below _ _⟩
    unfold Int.gcd
    rw [← HG.out, HG2.out]
    simp
    omega
  ·have h1 : (nv != 0) = true := by simp [h0]
   have h2 : (nv == 0) = false := by simp [h0]
   have t1 : (gv.tmod nv).natAbs < nv.natAbs := by rw [Int.natAbs_tmod]; exact Nat.mod_lt _ (by omega)
   have HT := Lib.hid t1; clear t1
   go_wp2
   go_quiet (fail)
   go_wp2
   go_roundw
   case rel => exact ⟨_, nv, gv.tmod nv, rfl, rfl, by rw [← HGG.out, Int.natAbs_tmod]; rw [Nat.gcd_comm nv.natAbs, ← Nat.gcd_rec, Nat.gcd_comm], y3, y4, by have := HT.out; omega, by have := HT.out; omega, drewN_add _ _ _⟩
   case measure => have := HT.out; simpa [intOf] using this
end Go.Proofs.YtkljafmdbajfeaaGreatDoor

/- tinplateref01.Lowest; tinplatelaw01.tame, under, price: what they answer. -/
namespace Go.Proofs.YtkljafmdbajfeaaGreatDoor
open Go.RowKit
set_option linter.unusedVariables false
set_option linter.unusedSimpArgs false
set_option maxRecDepth 100000 in
set_option maxHeartbeats 1000000 in
theorem lowest1_calls (X : Option Addr) (cx : Nat) (xs : List Int) (d : Int) (w : World) (hX : Ints w X xs) (hl : xs.length ≤ 1000) (hd : 1 ≤ d) (hd2 : d ≤ 9000000000000000000) (hx : ∀ i, i < xs.length → -9000000000000000000 ≤ nth xs i ∧ nth xs i ≤ 9000000000000000000) :
  Calls Tryz.prog 19 #[.agg #[.slice X xs.length cx, .int .i64 d]] w fun e w' => e = .returned (.bool (decide (gcdN d xs xs.length = 1))) ∧ Below w.heap.size w w' := by
 obtain ⟨wa, hwa⟩ : ∃ wa, w.alloc (.cells #[.slice X xs.length cx, .int .i64 d] 29 (0, 0)) = wa := ⟨_, rfl⟩
 have ba : Blk wa w.heap.size [.slice X xs.length cx, .int .i64 d] 29 := by rw [← hwa]; exact Blk.new _ _ _
 have ea : Below w.heap.size w wa := by rw [← hwa]; exact (Below.refl _ _).alloc (Nat.le_refl _) _
 have x1 := ba.cell 1 (by simp)
 simp only [List.getElem_cons_zero, List.getElem_cons_succ] at x1
 rw [← hwa] at x1
 have d0 : decide (d < 1) = false := decide_eq_false (by omega)
 have HG : Hid (∀ k, (gcdN d xs k : Int) ≤ d) := Lib.hid (fun k => by have := gcdN_le hd xs k; omega)
 have HX := Lib.hid hX; have HXB := Lib.hid hx; have HBA := Lib.hid ba; have HEA := Lib.hid ea; have HWA := Lib.hid hwa; have HD := Lib.hid hd; have HD2 := Lib.hid hd2
 clear hX hx ba ea hwa hd hd2
 go_enter Tryz.func19, Tryz.ntmps19
 go_wp2
 rw [HWA.out]
 clear x1
 go_loopw [3, 4] (fun tg ti wr => ∃ (k : Nat), k ≤ xs.length ∧ tg = .int .i64 (gcdN d xs k : Int) ∧ ti = .int .i64 k ∧ Hid (Below w.heap.size w wr) ∧ Hid (Blk wr w.heap.size [.slice X xs.length cx, .int .i64 d] 29)) (fun _ ti _ => xs.length - (intOf ti).toNat)
 case atStart => exact ⟨0, Nat.zero_le _, by have := HD.out; show Value.int .i64 d = Value.int .i64 ((d.natAbs : Nat) : Int); congr 1; omega, rfl, HEA, HBA⟩
 case round =>
  obtain ⟨k, hk, rfl, rfl, hb, hB⟩ := hrel
  have x0 := hB.out.cell 0 (by simp)
  simp only [List.getElem_cons_zero] at x0
  by_cases hlt : k < xs.length
  ·have hk1 : (k : Int) < xs.length := by omega
   obtain ⟨b2, o2, rfl, g2⟩ := (HX.out.ext hb.out) k hlt
   have hgc := gcd1_calls (gcdN d xs k : Int) (nth xs k) wr ⟨by omega, by have := HG.out k; have := HD2.out; omega⟩ (HXB.out k hlt)
   have hge : Int.gcd ((gcdN d xs k : Nat) : Int) (nth xs k) = gcdN d xs (k + 1) := rfl
   rw [hge] at hgc
   have HGC := Lib.hid hgc
   obtain ⟨G, hG⟩ : ∃ G, gcdN d xs k = G := ⟨_, rfl⟩
   obtain ⟨xk, hxk⟩ : ∃ x, nth xs k = x := ⟨_, rfl⟩
   rw [hG] at HGC
   rw [hxk] at HGC g2
   rw [hG]
   clear hgc hge hG hxk
   go_wp2_with fail
   refine HGC.out.mono ?_; rintro e w2 ⟨rfl, hb2⟩
   have HB2 := Lib.hid (hb.out.trans (hb2.mono hb.out.size)); have HBB2 := Lib.hid (hB.out.ext hb2)
   clear hb2 hb hB HGC x0 g2
   go_wp2
   go_roundw
   case rel => exact ⟨k + 1, by omega, rfl, by go_num, HB2, HBB2⟩
   case measure => simp [intOf]; omega
  ·obtain rfl : k = xs.length := by omega
   obtain ⟨G, hG⟩ : ∃ G, gcdN d xs xs.length = G := ⟨_, rfl⟩
   rw [hG]
   have hq : (((G : Nat) : Int) == 1) = decide (G = 1) := by rw [Bool.eq_iff_iff, beq_iff_eq, decide_eq_true_iff]; omega
   have HGG := Lib.hid hG
   clear hG
   go_wp2
   go_ret
   exact ⟨by rw [HGG.out]; rfl, hb.out⟩
theorem few_bd {x : Int} (h : x.natAbs < 100000000000000000000000000000000000000000000000000) : Few x := by
 unfold Few
 refine Nat.le_trans (T.digits_len (k := 13) (Nat.lt_of_lt_of_le h (by decide))) (by decide)
theorem few_i64 {x : Int} (h : -9223372036854775808 ≤ x ∧ x ≤ 9223372036854775807) : Few x := few_bd (by omega)
theorem calm_rb (z : Int) : Calm NoBlk fun v w => RB w v z := ⟨fun v w w' h hb => h.ext hb, fun v w w' p h hp hb => hp.elim⟩
end Go.Proofs.YtkljafmdbajfeaaGreatDoor
