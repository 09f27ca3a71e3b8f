/- tinplatelaw01.level: what it answers. -/
import Derived.Test.YtkljafmdbajfeaaGreatDoorDuA45
namespace Go.Proofs.YtkljafmdbajfeaaGreatDoor
open Go.RowKit
set_option linter.unusedVariables false
set_option linter.unusedSimpArgs false
theorem cell_set_otherL (w : World) (a b : Nat) (i j : Nat) (x : Value) (h : b ≠ a) : (w.setCell ⟨a, i, none⟩ x).cell? ⟨b, j, none⟩ = w.cell? ⟨b, j, none⟩ := by
 simp only [World.cell?]; rw [Below.heap_setCell _ _ _ _ h]
theorem RB.put {w : World} {v : Value} {z : Int} (h : RB w v z) {p : Nat} {vs : List Value} {T : TypeId} (hb : Blk w p vs T) (hv : ∀ k n, Value.int k n ∉ vs) (i : Nat) (x : Value) : RB (w.setCell ⟨p, i, none⟩ x) v z := by
 obtain ⟨sl, h1, A, c, h2, h3, h4, hR⟩ := h
 refine ⟨sl, h1, A, c, h2, h3, h4, fun j hj => ?_⟩
 obtain ⟨b, off, e, hc⟩ := hR j hj
 have hne : b ≠ p := fun e2 => by subst e2; exact hv _ _ (cell_in hb hc)
 exact ⟨b, off, e, by rw [cell_set_otherL _ _ _ _ _ _ hne]; exact hc⟩
structure BigAt (w : World) (p : Nat) (z : Int) (q : Bool) (sl : Value) : Prop where
 blk : Blk w p [.bool q, sl] 61
 num : RB w (.agg #[.bool q, sl]) z
 sli : ∃ A n c, sl = .slice A n c
theorem BigAt.ext {w w' : World} {p : Nat} {z : Int} {q : Bool} {sl : Value} (h : BigAt w p z q sl) (hb : Below w.heap.size w w') : BigAt w' p z q sl := ⟨h.blk.ext hb, h.num.ext hb, h.sli⟩
theorem BigAt.noint {w : World} {p : Nat} {z : Int} {q : Bool} {sl : Value} (h : BigAt w p z q sl) : ∀ k n, Value.int k n ∉ [.bool q, sl] := fun k n hm => by
 obtain ⟨A, m, c, rfl⟩ := h.sli; simp at hm
theorem BigAt.other {w : World} {p r : Nat} {z y : Int} {q s : Bool} {sl tl : Value} (h : BigAt w p z q sl) (k : BigAt w r y s tl) (hne : p ≠ r) (i : Nat) (x : Value) : BigAt (w.setCell ⟨r, i, none⟩ x) p z q sl :=
 ⟨Blk.other h.blk _ _ (by dsimp only; omega), h.num.put k.blk k.noint i x, h.sli⟩
theorem BigAt.put {w : World} {p : Nat} {z y : Int} {q s : Bool} {sl : Value} (h : BigAt w p z q sl) {A : Option Addr} {n c : Nat} (k : RB w (.agg #[.bool s, .slice A n c]) y) : BigAt ((w.setCell ⟨p, 0, none⟩ (.bool s)).setCell ⟨p, 1, none⟩ (.slice A n c)) p y s (.slice A n c) := by
 have h1 : Blk (w.setCell ⟨p, 0, none⟩ (.bool s)) p [.bool s, sl] 61 := h.blk.set 0 _
 obtain ⟨B, m, d, hsl⟩ := h.sli
 have n1 : ∀ k n, Value.int k n ∉ [.bool s, sl] := fun k n hm => by subst hsl; simp at hm
 exact ⟨h1.set 1 _, (k.put h.blk h.noint 0 _).put h1 n1 1 _, _, _, _, rfl⟩
theorem BigAt.otherB {w : World} {p r : Nat} {z y : Int} {q s : Bool} {sl : Value} (h : BigAt (w.setCell ⟨r, 0, none⟩ (.bool s)) p z q sl) {y' : Int} {s' : Bool} {tl : Value} (k : BigAt w r y' s' tl) {A : Option Addr} {n c : Nat} (m : RB w (.agg #[.bool s, .slice A n c]) y) (hne : p ≠ r) : BigAt ((w.setCell ⟨r, 0, none⟩ (.bool s)).setCell ⟨r, 1, none⟩ (.slice A n c)) p z q sl := by
 have h1 : Blk (w.setCell ⟨r, 0, none⟩ (.bool s)) r [.bool s, tl] 61 := k.blk.set 0 _
 obtain ⟨B, m, d, hsl⟩ := k.sli
 have n1 : ∀ k n, Value.int k n ∉ [.bool s, tl] := fun k n hm => by subst hsl; simp at hm
 exact ⟨Blk.other h.blk _ _ (by dsimp only; omega), h.num.put h1 n1 1 _, h.sli⟩
theorem BigAt.new {w : World} {z : Int} {s : Bool} {A : Option Addr} {n c : Nat} (k : RB w (.agg #[.bool s, .slice A n c]) z) : BigAt (w.alloc (.cells #[.bool s, .slice A n c] 61 (0, 0))) w.heap.size z s (.slice A n c) :=
 ⟨Blk.new _ _ _, k.ext ((Below.refl _ _).alloc (Nat.le_refl _) _), _, _, _, rfl⟩
theorem few_sum {s p : Int} (h : s.natAbs ≤ 1000000000000000000) (k : p.natAbs ≤ 1000000000000000000) : Few s ∧ Few p ∧ Few (s + p) := ⟨few_bd (by omega), few_bd (by omega), few_bd (by omega)⟩
theorem dotN_step {c xs : List Int} {m : Int} (hc : listOk 1000 c = true) (hx : ∀ i, i < c.length → (nth xs i).natAbs ≤ 104976000000000) {k : Nat} (hk : k < c.length) (h6 : c.length ≤ 6) :
  (dotN c xs k).natAbs ≤ 1000000000000000000 ∧ (nth c k * nth xs k).natAbs ≤ 1000000000000000000 := by
 have hb : ∀ i, i < c.length → -104976000000000000 ≤ nth c i * nth xs i ∧ nth c i * nth xs i ≤ 104976000000000000 := fun i hi => by
  have h1 := listOk_nth hc hi
  have h2 := hx i hi
  have := mul_bd (a := 1000) (b := 104976000000000) (x := nth c i) (y := nth xs i) (by omega) h1 (by omega)
  omega
 have h1 := dotN_bound hb k (by omega)
 have h2 := hb k hk
 have h3 : (k : Int) ≤ 5 := by omega
 have h4 : (k : Int) * 104976000000000000 ≤ 5 * 104976000000000000 := Int.mul_le_mul_of_nonneg_right h3 (by omega)
 omega
theorem dotN_end {c xs : List Int} (hc : listOk 1000 c = true) (hx : ∀ i, i < c.length → (nth xs i).natAbs ≤ 104976000000000) (h6 : c.length ≤ 6) : (dotN c xs c.length).natAbs ≤ 1000000000000000000 := by
 have hb : ∀ i, i < c.length → -104976000000000000 ≤ nth c i * nth xs i ∧ nth c i * nth xs i ≤ 104976000000000000 := fun i hi => by
  have h1 := listOk_nth hc hi
  have h2 := hx i hi
  have := mul_bd (a := 1000) (b := 104976000000000) (x := nth c i) (y := nth xs i) (by omega) h1 (by omega)
  omega
 have h1 := dotN_bound hb c.length (by omega)
 have h4 : (c.length : Int) * 104976000000000000 ≤ 6 * 104976000000000000 := Int.mul_le_mul_of_nonneg_right (by omega) (by omega)
 omega
theorem few_prod {s e : Int} (h : s.natAbs ≤ 1000000000000000000) (k : 1 ≤ e) (k2 : e ≤ 524880000000) : Few s ∧ Few e ∧ Few (s * e) := by
 refine ⟨few_bd (by omega), few_bd (by omega), few_bd ?_⟩
 rw [Int.natAbs_mul]
 have h2 : e.natAbs ≤ 524880000000 := by omega
 exact Nat.lt_of_le_of_lt (Nat.mul_le_mul h h2) (by decide)
theorem sgnI_zero (x y : Int) : (sgnI x y == 0) = decide (x = y) := by
 rcases Int.lt_trichotomy x y with h | h | h
 ·rw [sgnI_lt h, decide_eq_false (by omega)]; rfl
 ·rw [sgnI_eq h, decide_eq_true h]; rfl
 ·rw [sgnI_gt h, decide_eq_false (by omega)]; rfl
set_option maxRecDepth 100000 in
set_option maxHeartbeats 8000000 in
theorem level_calls (A B C X Y : Option Addr) (ca cb cc cx cy : Nat) (a : List (List Int)) (b c xs ys : List Int) (d e : Int) (w : World) (h : Prog3 w A B C a b c) (hX : Ints w X xs) (hY : Ints w Y ys)
  (hlx : xs.length = c.length) (hly : ys.length = b.length) (hc : listOk 1000 c = true) (hb : listOk 1000 b = true) (h6 : c.length ≤ 6) (h7 : b.length ≤ 6) (hx : ∀ i, i < c.length → (nth xs i).natAbs ≤ 104976000000000) (hy : ∀ i, i < b.length → (nth ys i).natAbs ≤ 104976000000000)
  (hd : 1 ≤ d) (hd2 : d ≤ 524880000000) (he : 1 ≤ e) (he2 : e ≤ 524880000000) :
  Calls Tryz.prog 26 #[.agg #[.slice A a.length ca, .slice B b.length cb, .slice C c.length cc], .agg #[.slice X xs.length cx, .int .i64 d], .agg #[.slice Y ys.length cy, .int .i64 e]] w fun r w' => r = .returned (.bool (decide (dotZ c xs * e = dotZ b ys * d))) ∧ Below w.heap.size w w' := by
 obtain ⟨ua, hua⟩ : ∃ W, w.alloc (.cells #[.slice A a.length ca, .slice B b.length cb, .slice C c.length cc] 25 (0, 0)) = W := ⟨_, rfl⟩
 obtain ⟨ub, hub⟩ : ∃ W, ua.alloc (.cells #[.slice X xs.length cx, .int .i64 d] 29 (0, 0)) = W := ⟨_, rfl⟩
 obtain ⟨uc, huc⟩ : ∃ W, ub.alloc (.cells #[.slice Y ys.length cy, .int .i64 e] 29 (0, 0)) = W := ⟨_, rfl⟩
 have sa : ua.heap.size = w.heap.size + 1 := by rw [← hua]; simp
 have sb : ub.heap.size = w.heap.size + 1 + 1 := by rw [← hub, ← sa]; simp
 have ba : Blk ua w.heap.size [.slice A a.length ca, .slice B b.length cb, .slice C c.length cc] 25 := by rw [← hua]; exact Blk.new _ _ _
 have bb : Blk ub (w.heap.size + 1) [.slice X xs.length cx, .int .i64 d] 29 := by rw [← hub, ← sa]; exact Blk.new _ _ _
 have bc : Blk uc (w.heap.size + 1 + 1) [.slice Y ys.length cy, .int .i64 e] 29 := by rw [← huc, ← sb]; exact Blk.new _ _ _
 have ea : Below w.heap.size w ua := by rw [← hua]; exact (Below.refl _ _).alloc (Nat.le_refl _) _
 have eb : Below ua.heap.size ua ub := by rw [← hub]; exact (Below.refl _ _).alloc (Nat.le_refl _) _
 have ec : Below ub.heap.size ub uc := by rw [← huc]; exact (Below.refl _ _).alloc (Nat.le_refl _) _
 have e2 : Below w.heap.size w uc := (ea.trans (eb.mono (by omega))).trans (ec.mono (by omega))
 have HBA := Lib.hid ((ba.ext eb).ext ec); have HBB := Lib.hid (bb.ext ec); have HBC := Lib.hid bc; have HE2 := Lib.hid e2
 have HP := Lib.hid (h.ext e2); have HX := Lib.hid (hX.ext e2); have HY := Lib.hid (hY.ext e2); have HLX := Lib.hid hlx; have HLY := Lib.hid hly
 have HOK := Lib.hid hc; have HOB := Lib.hid hb; have HXB := Lib.hid hx; have HYB := Lib.hid hy
 have ZO := Lib.hid (fun W => rOf_calls 0 W (by omega))
 have hux : xs.length ≤ 6 := by omega
 have huy : ys.length ≤ 6 := by omega
 have HD1 := Lib.hid hd; have HD2 := Lib.hid hd2; have HE1 := Lib.hid he; have HEE := Lib.hid he2
 have HUA := Lib.hid hua; have HUB := Lib.hid hub; have HUC := Lib.hid huc
 clear ba bb bc ea eb ec e2 h hX hY sa sb hua hub huc hlx hly hc hb hx hy hd hd2 he he2
 go_enter Tryz.func26, Tryz.ntmps26
 go_wp2_with fail
 rw [HUA.out, HUB.out, HUC.out]
 obtain ⟨pp, hpp⟩ : ∃ p, w.heap.size = p := ⟨_, rfl⟩
 obtain ⟨xp, hxp⟩ : ∃ p, w.heap.size + 1 = p := ⟨_, rfl⟩
 obtain ⟨yp, hyp⟩ : ∃ p, w.heap.size + 1 + 1 = p := ⟨_, rfl⟩
 rw [hpp] at HBA
 rw [hyp] at HBC
 rw [hyp]
 rw [hxp] at HBB
 rw [hxp, hpp]
 have HPP := Lib.hid hpp
 clear hpp hxp hyp
 refine (ZO.out uc).mono ?_; rintro r w1 ⟨v1, rfl, hr1, hb1⟩
 have HR1 := Lib.hid hr1.rb
 clear hr1
 go_wp2_with fail
 refine (ZO.out w1).mono ?_; rintro r w2 ⟨v2, rfl, hr2, hb2⟩
 have HR2 := Lib.hid hr2.rb; have HR12 := Lib.hid (HR1.out.ext hb2)
 have HB2 := Lib.hid (hb1.trans (hb2.mono hb1.size))
 clear hr2 hb1 hb2 HR1 ZO
 obtain ⟨A1, n1, rfl, hq1⟩ := RB.form HR12.out
 obtain ⟨A2, n2, rfl, hq2⟩ := RB.form HR2.out
 obtain ⟨q0, hq0⟩ : ∃ q, decide ((0 : Int) < 0) = q := ⟨_, rfl⟩
 obtain ⟨l0, hl0⟩ : ∃ l, (T.digits (0 : Int).natAbs).length = l := ⟨_, rfl⟩
 rw [hq0, hl0] at HR12 HR2
 rw [hq0, hl0]
 clear hq1 hq2 hq0 hl0
 obtain ⟨w3, hw3⟩ : ∃ W, w2.alloc (.cells #[.bool q0, .slice A1 l0 n1] 61 (0, 0)) = W := ⟨_, rfl⟩
 have hb3 : Below w2.heap.size w2 w3 := by rw [← hw3]; exact (Below.refl _ _).alloc (Nat.le_refl _) _
 have k1 : BigAt w3 w2.heap.size 0 q0 (.slice A1 l0 n1) := by rw [← hw3]; exact BigAt.new HR12.out
 have s3 : w3.heap.size = w2.heap.size + 1 := by rw [← hw3]; simp
 have hr3 := HR2.out.ext hb3
 obtain ⟨w4, hw4⟩ : ∃ W, w3.alloc (.cells #[.bool q0, .slice A2 l0 n2] 61 (0, 0)) = W := ⟨_, rfl⟩
 have hb4 : Below w3.heap.size w3 w4 := by rw [← hw4]; exact (Below.refl _ _).alloc (Nat.le_refl _) _
 have k2 : BigAt w4 (w2.heap.size + 1) 0 q0 (.slice A2 l0 n2) := by rw [← hw4, ← s3]; exact BigAt.new hr3
 have HK1 := Lib.hid (k1.ext hb4); have HK2 := Lib.hid k2
 have HB4 := Lib.hid ((HB2.out.trans (hb3.mono HB2.out.size)).trans (hb4.mono (by have := HB2.out.size; omega)))
 have HW3 := Lib.hid hw3; have HW4 := Lib.hid hw4
 have hlo : uc.heap.size ≤ w2.heap.size := HB2.out.size
 clear k1 k2 s3 hr3 hb3 hb4 hw3 hw4 HR12 HR2 HB2
 go_wp2
 rw [HW3.out, HW4.out]
 obtain ⟨ap, hap⟩ : ∃ p, w2.heap.size = p := ⟨_, rfl⟩
 obtain ⟨bp, hbp⟩ : ∃ p, w2.heap.size + 1 = p := ⟨_, rfl⟩
 rw [hap] at HK1
 rw [hbp] at HK2
 rw [hbp, hap]
 rw [hap] at hlo
 have HAB : Hid (ap ≠ bp ∧ uc.heap.size ≤ ap ∧ uc.heap.size ≤ bp) := Lib.hid (by omega)
 clear hap hbp hlo

 go_loopw [9] (fun ti wr => ∃ (k : Nat) (q : Bool) (sl : Value) (q2 : Bool) (sl2 : Value), k ≤ c.length ∧ ti = .int .i64 k ∧ Hid (BigAt wr ap (dotN c xs k) q sl) ∧ Hid (BigAt wr bp 0 q2 sl2) ∧ Hid (Below uc.heap.size uc wr)) (fun ti _ => c.length - (intOf ti).toNat)
 case atStart => exact ⟨0, q0, _, q0, _, Nat.zero_le _, rfl, HK1, HK2, HB4⟩
 case round =>
  obtain ⟨k, q, sl, q2, sl2, hk, rfl, HK, HO, HBE⟩ := hrel
  have hPB := Lib.hid (HBA.out.ext HBE.out); have hQB := Lib.hid (HBB.out.ext HBE.out)
  have k2 := hPB.out.cell 2 (by simp)
  have x0 := hQB.out.cell 0 (by simp)
  simp only [List.getElem_cons_zero, List.getElem_cons_succ, List.map_cons, List.map_nil] at k2 x0
  by_cases hlt : k < c.length
  ·have hk1 : (k : Int) < c.length := by omega
   have hk2 : (k : Int) < xs.length := by rw [HLX.out]; exact hk1
   obtain ⟨b1, o1, rfl, c1⟩ := (HP.out.ext HBE.out).gc k hlt
   obtain ⟨b2, o2, rfl, c2⟩ := (HX.out.ext HBE.out) k (by rw [HLX.out]; exact hlt)
   obtain ⟨f1, f2⟩ := dotN_step (m := 0) HOK.out HXB.out hlt (by omega)
   have z1 := listOk_nth HOK.out hlt
   have z2 := HXB.out k hlt
   have hnx : dotN c xs (k + 1) = dotN c xs k + nth c k * nth xs k := rfl
   obtain ⟨ck, hck⟩ : ∃ x, nth c k = x := ⟨_, rfl⟩
   obtain ⟨xk, hxk⟩ : ∃ x, nth xs k = x := ⟨_, rfl⟩
   obtain ⟨s, hs⟩ : ∃ x, dotN c xs k = x := ⟨_, rfl⟩
   rw [hck] at c1 f2 z1 hnx
   rw [hxk] at c2 f2 z2 hnx
   rw [hs] at f1 HK hnx
   obtain ⟨m1, m2, m3⟩ := few_sum f1 f2
   have HOP := Lib.hid (fun W => rOf_calls ck W (by omega)); have HOX := Lib.hid (fun W => rOf_calls xk W (by omega))
   have HTM := Lib.hid (fun v1 v2 W (k1 : RB W v1 ck) (k2 : RB W v2 xk) => rTimes_calls v1 v2 ck xk W k1 k2 (few_i64 (by omega)) (few_i64 (by omega)))
   have HPL := Lib.hid (fun v1 v2 W (k1 : RB W v1 s) (k2 : RB W v2 (ck * xk)) => rPlus_calls v1 v2 s (ck * xk) W k1 k2 m1 m2)
   have HNX := Lib.hid hnx; have HLT := Lib.hid hlt
   obtain ⟨Asl, nsl, csl, rfl⟩ := HK.out.sli
   have a0 := HK.out.blk.cell 0 (by simp)
   have a1 := HK.out.blk.cell 1 (by simp)
   simp only [List.getElem_cons_zero, List.getElem_cons_succ] at a0 a1
   clear hck hxk hs f1 f2 z1 z2 m1 m2 m3 hnx hlt
   go_wp2_with fail
   refine wp_region_keys (w0 := wr) 15 [27, 28, 29, 30, 31, 32, 33, 34, 35, 36, 37, 38, 39, 40, 41]
    [leafS 27 (.agg #[.bool q, .slice Asl nsl csl]), leafS 28 (.pointer (some ⟨pp, 2, none⟩)), leafS 29 (.slice (some ⟨b1, o1, none⟩) c.length cc), leafS 30 (.int .i64 k), leafS 31 (.pointer (some ⟨b1, o1 + k, none⟩)), leafS 32 (.int .i64 ck), leaf1 33 (fun v w => RB w v ck), leafS 34 (.pointer (some ⟨xp, 0, none⟩)), leafS 35 (.slice (some ⟨b2, o2, none⟩) xs.length cx), leafS 36 (.int .i64 k), leafS 37 (.pointer (some ⟨b2, o2 + k, none⟩)), leafS 38 (.int .i64 xk), leaf1 39 (fun v w => RB w v xk), leaf1 40 (fun v w => RB w v (ck * xk)), leaf1 41 (fun v w => RB w v (s + ck * xk))]
    [] [none, none, none, none, none, none, none, none, none, none, none, none, none, none, none] NoBlk (by kernel_rfl) (by kernel_rfl) (by kernel_rfl) rfl (F := ?cFl1) ?l1c1 ?l1c2 ?l1c3 ?l1c4
   case l1c1 =>
    intro x
    simp only [fullF, Act.put, List.setIfInBounds_toArray, List.set_cons_zero, List.set_cons_succ]
    rfl
   case l1c2 =>
    exact ⟨keeps_const _ _ _ _ _ _ _, keeps_const _ _ _ _ _ _ _, keeps_const _ _ _ _ _ _ _, keeps_const _ _ _ _ _ _ _, keeps_const _ _ _ _ _ _ _, keeps_const _ _ _ _ _ _ _, keeps_calm (calm_rb ck) _ _ _ _ _, keeps_const _ _ _ _ _ _ _, keeps_const _ _ _ _ _ _ _, keeps_const _ _ _ _ _ _ _, keeps_const _ _ _ _ _ _ _, keeps_const _ _ _ _ _ _ _, keeps_calm (calm_rb xk) _ _ _ _ _, keeps_calm (calm_rb (ck * xk)) _ _ _ _ _, keeps_calm (calm_rb (s + ck * xk)) _ _ _ _ _, trivial⟩
   case l1c3 =>
    refine ⟨?_, ?_, ?_, ?_, ?_, ?_, ?_, ?_, ?_, ?_, ?_, ?_, ?_, ?_, ?_, trivial⟩
    all_goals
     intro xx wq HE hd K hK
     have hc := (bcell HE).1
     have a0' := (hc _ _ (cell_lt a0)).trans a0
     have a1' := (hc _ _ (cell_lt a1)).trans a1
     have k2' := (hc _ _ (cell_lt k2)).trans k2
     have x0' := (hc _ _ (cell_lt x0)).trans x0
     have c1' := (hc _ _ (cell_lt c1)).trans c1
     have c2' := (hc _ _ (cell_lt c2)).trans c2
     try have e0 : xx 27 = _ := hd 0 _ (by decide) rfl
     try have e1 : xx 28 = _ := hd 1 _ (by decide) rfl
     try have e2 : xx 29 = _ := hd 2 _ (by decide) rfl
     try have e3 : xx 30 = _ := hd 3 _ (by decide) rfl
     try have e4 : xx 31 = _ := hd 4 _ (by decide) rfl
     try have e5 : xx 32 = _ := hd 5 _ (by decide) rfl
     try have g6 := hd 6 _ (by decide) rfl
     try have e7 : xx 34 = _ := hd 7 _ (by decide) rfl
     try have e8 : xx 35 = _ := hd 8 _ (by decide) rfl
     try have e9 : xx 36 = _ := hd 9 _ (by decide) rfl
     try have e10 : xx 37 = _ := hd 10 _ (by decide) rfl
     try have e11 : xx 38 = _ := hd 11 _ (by decide) rfl
     try have g12 := hd 12 _ (by decide) rfl
     try have g13 := hd 13 _ (by decide) rfl
     try have g14 := hd 14 _ (by decide) rfl
     have HE := Lib.hid HE
     have HC := Lib.hid hc
     clear hd hc
     all_goals go_simp
     try (refine hK _ _ _ (mv_const _ rfl) ?_; dsimp only [Act.put]; first | done | rfl | (simp [*]; done))
    ·refine (HOP.out wq).mono ?_
     rintro e w3 ⟨v, rfl, h1, h2⟩
     exact hK _ _ _ (mv_plain h2 h1.rb rfl) (by first | (dsimp only [Act.put]; done) | (dsimp only [Act.put]; first | rfl | (simp [*]; done) | (simp [*, ptr]; done)))
    ·refine (HOX.out wq).mono ?_
     rintro e w3 ⟨v, rfl, h1, h2⟩
     exact hK _ _ _ (mv_plain h2 h1.rb rfl) (by first | (dsimp only [Act.put]; done) | (dsimp only [Act.put]; first | rfl | (simp [*]; done) | (simp [*, ptr]; done)))
    ·refine (HTM.out _ _ wq g6 g12).mono ?_
     rintro e w3 ⟨v, rfl, h1, h2⟩
     exact hK _ _ _ (mv_plain h2 h1.rb rfl) (by first | (dsimp only [Act.put]; done) | (dsimp only [Act.put]; first | rfl | (simp [*]; done) | (simp [*, ptr]; done)))
    ·refine (HPL.out _ _ wq (HK.out.num.ext HE.out) g13).mono ?_
     rintro e w3 ⟨v, rfl, h1, h2⟩
     exact hK _ _ _ (mv_plain h2 h1.rb rfl) (by first | (dsimp only [Act.put]; done) | (dsimp only [Act.put]; first | rfl | (simp [*]; done) | (simp [*, ptr]; done)))
   case l1c4 =>
    intro xx wz hE hG hA
    have e0 : xx 27 = _ := hG 0 _ rfl
    have e1 : xx 28 = _ := hG 1 _ rfl
    have e2 : xx 29 = _ := hG 2 _ rfl
    have e3 : xx 30 = _ := hG 3 _ rfl
    have e4 : xx 31 = _ := hG 4 _ rfl
    have e5 : xx 32 = _ := hG 5 _ rfl
    have g6 := hG 6 _ rfl
    have e7 : xx 34 = _ := hG 7 _ rfl
    have e8 : xx 35 = _ := hG 8 _ rfl
    have e9 : xx 36 = _ := hG 9 _ rfl
    have e10 : xx 37 = _ := hG 10 _ rfl
    have e11 : xx 38 = _ := hG 11 _ rfl
    have g12 := hG 12 _ rfl
    have g13 := hG 13 _ rfl
    have g14 := hG 14 _ rfl
    obtain ⟨A9, n9, e14, -⟩ := RB.form g14
    obtain ⟨q9, hq9⟩ : ∃ q, decide (s + ck * xk < 0) = q := ⟨_, rfl⟩
    obtain ⟨l9, hl9⟩ : ∃ l, (T.digits (s + ck * xk).natAbs).length = l := ⟨_, rfl⟩
    rw [hq9, hl9] at e14
    have HR9 : Hid (RB wz (.agg #[.bool q9, .slice A9 l9 n9]) (s + ck * xk)) := Lib.hid (by rw [← e14]; exact g14)
    have HKz := Lib.hid (HK.out.ext hE); have HOz := Lib.hid (HO.out.ext hE); have HBz := Lib.hid (HBE.out.trans (hE.mono HBE.out.size))
    have y0 := HKz.out.blk.cell 0 (by simp)
    have y1 := HKz.out.blk.cell 1 (by simp)
    simp only [List.getElem_cons_zero, List.getElem_cons_succ] at y0 y1
    have fr0 := HKz.out.blk.free 0
    have fr1 := HKz.out.blk.free 1
    have hlz := HKz.out.blk.lt
    clear hG hA hE hq9 hl9 g14 a0 a1 c1 c2
    (refine tail_one (i := 15) (by kernel_rfl) rfl ?_; intro K hK; go_simp; refine hK _ _ ?_; clear hK)
    refine wpAny_done (by kernel_rfl) ?_ _
    have hl1 := HLT.out
    go_wp2
    go_roundw
    case rel => exact ⟨k + 1, _, _, _, _, by omega, by go_num, Lib.hid (by rw [HNX.out]; exact HKz.out.put HR9.out), Lib.hid ((HOz.out.other HKz.out HAB.out.1.symm 0 _).otherB HKz.out HR9.out HAB.out.1.symm), Lib.hid ((HBz.out.setCell (p := ⟨ap, 0, none⟩) (by have := HAB.out; dsimp only; omega) _).setCell (p := ⟨ap, 1, none⟩) (by have := HAB.out; dsimp only; omega) _)⟩
    case measure => simp [intOf]; omega
  ·obtain rfl : k = c.length := by omega
   have hk2 : decide ((c.length : Int) < (c.length : Int)) = false := by simp
   have HKa := HK; have HKb := HO
   clear HK HO HK1 HK2 HB4
   go_wp2
   clear k2 x0
   go_loopw [10] (fun ti wr => ∃ (k : Nat) (q : Bool) (sl : Value) (q2 : Bool) (sl2 : Value), k ≤ b.length ∧ ti = .int .i64 k ∧ Hid (BigAt wr bp (dotN b ys k) q sl) ∧ Hid (BigAt wr ap (dotN c xs c.length) q2 sl2) ∧ Hid (Below uc.heap.size uc wr)) (fun ti _ => b.length - (intOf ti).toNat)
   case atStart => exact ⟨0, _, _, _, _, Nat.zero_le _, rfl, HKb, HKa, HBE⟩
   case round =>
    obtain ⟨k, q, sl, q2, sl2, hk, rfl, HK, HO, HBE⟩ := hrel
    have hPB := Lib.hid (HBA.out.ext HBE.out); have hQB := Lib.hid (HBC.out.ext HBE.out)
    have k1 := hPB.out.cell 1 (by simp)
    have x0 := hQB.out.cell 0 (by simp)
    simp only [List.getElem_cons_zero, List.getElem_cons_succ, List.map_cons, List.map_nil] at k1 x0
    by_cases hlt : k < b.length
    ·have hk1 : (k : Int) < b.length := by omega
     have hk2 : (k : Int) < ys.length := by rw [HLY.out]; exact hk1
     obtain ⟨b1, o1, rfl, c1⟩ := (HP.out.ext HBE.out).gb k hlt
     obtain ⟨b2, o2, rfl, c2⟩ := (HY.out.ext HBE.out) k (by rw [HLY.out]; exact hlt)
     obtain ⟨f1, f2⟩ := dotN_step (m := 0) HOB.out HYB.out hlt (by omega)
     have z1 := listOk_nth HOB.out hlt
     have z2 := HYB.out k hlt
     have hnx : dotN b ys (k + 1) = dotN b ys k + nth b k * nth ys k := rfl
     obtain ⟨ck, hck⟩ : ∃ x, nth b k = x := ⟨_, rfl⟩
     obtain ⟨xk, hxk⟩ : ∃ x, nth ys k = x := ⟨_, rfl⟩
     obtain ⟨s, hs⟩ : ∃ x, dotN b ys k = x := ⟨_, rfl⟩
     rw [hck] at c1 f2 z1 hnx
     rw [hxk] at c2 f2 z2 hnx
     rw [hs] at f1 HK hnx
     obtain ⟨m1, m2, m3⟩ := few_sum f1 f2
     have HOP := Lib.hid (fun W => rOf_calls ck W (by omega)); have HOX := Lib.hid (fun W => rOf_calls xk W (by omega))
     have HTM := Lib.hid (fun v1 v2 W (k1 : RB W v1 ck) (k2 : RB W v2 xk) => rTimes_calls v1 v2 ck xk W k1 k2 (few_i64 (by omega)) (few_i64 (by omega)))
     have HPL := Lib.hid (fun v1 v2 W (k1 : RB W v1 s) (k2 : RB W v2 (ck * xk)) => rPlus_calls v1 v2 s (ck * xk) W k1 k2 m1 m2)
     have HNX := Lib.hid hnx; have HLT := Lib.hid hlt
     obtain ⟨Asl, nsl, csl, rfl⟩ := HK.out.sli
     have a0 := HK.out.blk.cell 0 (by simp)
     have a1 := HK.out.blk.cell 1 (by simp)
     simp only [List.getElem_cons_zero, List.getElem_cons_succ] at a0 a1
     clear hck hxk hs f1 f2 z1 z2 m1 m2 m3 hnx hlt
     go_wp2_with fail
     refine wp_region_keys (w0 := wr) 15 [56, 57, 58, 59, 60, 61, 62, 63, 64, 65, 66, 67, 68, 69, 70]
      [leafS 56 (.agg #[.bool q, .slice Asl nsl csl]), leafS 57 (.pointer (some ⟨pp, 1, none⟩)), leafS 58 (.slice (some ⟨b1, o1, none⟩) b.length cb), leafS 59 (.int .i64 k), leafS 60 (.pointer (some ⟨b1, o1 + k, none⟩)), leafS 61 (.int .i64 ck), leaf1 62 (fun v w => RB w v ck), leafS 63 (.pointer (some ⟨yp, 0, none⟩)), leafS 64 (.slice (some ⟨b2, o2, none⟩) ys.length cy), leafS 65 (.int .i64 k), leafS 66 (.pointer (some ⟨b2, o2 + k, none⟩)), leafS 67 (.int .i64 xk), leaf1 68 (fun v w => RB w v xk), leaf1 69 (fun v w => RB w v (ck * xk)), leaf1 70 (fun v w => RB w v (s + ck * xk))]
      [] [none, none, none, none, none, none, none, none, none, none, none, none, none, none, none] NoBlk (by kernel_rfl) (by kernel_rfl) (by kernel_rfl) rfl (F := ?cFl2) ?l2c1 ?l2c2 ?l2c3 ?l2c4
     case l2c1 =>
      intro x
      simp only [fullF, Act.put, List.setIfInBounds_toArray, List.set_cons_zero, List.set_cons_succ]
      rfl
     case l2c2 =>
      exact ⟨keeps_const _ _ _ _ _ _ _, keeps_const _ _ _ _ _ _ _, keeps_const _ _ _ _ _ _ _, keeps_const _ _ _ _ _ _ _, keeps_const _ _ _ _ _ _ _, keeps_const _ _ _ _ _ _ _, keeps_calm (calm_rb ck) _ _ _ _ _, keeps_const _ _ _ _ _ _ _, keeps_const _ _ _ _ _ _ _, keeps_const _ _ _ _ _ _ _, keeps_const _ _ _ _ _ _ _, keeps_const _ _ _ _ _ _ _, keeps_calm (calm_rb xk) _ _ _ _ _, keeps_calm (calm_rb (ck * xk)) _ _ _ _ _, keeps_calm (calm_rb (s + ck * xk)) _ _ _ _ _, trivial⟩
     case l2c3 =>
      refine ⟨?_, ?_, ?_, ?_, ?_, ?_, ?_, ?_, ?_, ?_, ?_, ?_, ?_, ?_, ?_, trivial⟩
      all_goals
       intro xx wq HE hd K hK
       have hc := (bcell HE).1
       have a0' := (hc _ _ (cell_lt a0)).trans a0
       have a1' := (hc _ _ (cell_lt a1)).trans a1
       have k1' := (hc _ _ (cell_lt k1)).trans k1
       have x0' := (hc _ _ (cell_lt x0)).trans x0
       have c1' := (hc _ _ (cell_lt c1)).trans c1
       have c2' := (hc _ _ (cell_lt c2)).trans c2
       try have e0 : xx 56 = _ := hd 0 _ (by decide) rfl
       try have e1 : xx 57 = _ := hd 1 _ (by decide) rfl
       try have e2 : xx 58 = _ := hd 2 _ (by decide) rfl
       try have e3 : xx 59 = _ := hd 3 _ (by decide) rfl
       try have e4 : xx 60 = _ := hd 4 _ (by decide) rfl
       try have e5 : xx 61 = _ := hd 5 _ (by decide) rfl
       try have g6 := hd 6 _ (by decide) rfl
       try have e7 : xx 63 = _ := hd 7 _ (by decide) rfl
       try have e8 : xx 64 = _ := hd 8 _ (by decide) rfl
       try have e9 : xx 65 = _ := hd 9 _ (by decide) rfl
       try have e10 : xx 66 = _ := hd 10 _ (by decide) rfl
       try have e11 : xx 67 = _ := hd 11 _ (by decide) rfl
       try have g12 := hd 12 _ (by decide) rfl
       try have g13 := hd 13 _ (by decide) rfl
       try have g14 := hd 14 _ (by decide) rfl
       have HE := Lib.hid HE
       have HC := Lib.hid hc
       clear hd hc
       all_goals go_simp
       try (refine hK _ _ _ (mv_const _ rfl) ?_; dsimp only [Act.put]; first | done | rfl | (simp [*]; done))
      ·refine (HOP.out wq).mono ?_
       rintro e w3 ⟨v, rfl, h1, h2⟩
       exact hK _ _ _ (mv_plain h2 h1.rb rfl) (by first | (dsimp only [Act.put]; done) | (dsimp only [Act.put]; first | rfl | (simp [*]; done) | (simp [*, ptr]; done)))
      ·refine (HOX.out wq).mono ?_
       rintro e w3 ⟨v, rfl, h1, h2⟩
       exact hK _ _ _ (mv_plain h2 h1.rb rfl) (by first | (dsimp only [Act.put]; done) | (dsimp only [Act.put]; first | rfl | (simp [*]; done) | (simp [*, ptr]; done)))
      ·refine (HTM.out _ _ wq g6 g12).mono ?_
       rintro e w3 ⟨v, rfl, h1, h2⟩
       exact hK _ _ _ (mv_plain h2 h1.rb rfl) (by first | (dsimp only [Act.put]; done) | (dsimp only [Act.put]; first | rfl | (simp [*]; done) | (simp [*, ptr]; done)))
      ·refine (HPL.out _ _ wq (HK.out.num.ext HE.out) g13).mono ?_
       rintro e w3 ⟨v, rfl, h1, h2⟩
       exact hK _ _ _ (mv_plain h2 h1.rb rfl) (by first | (dsimp only [Act.put]; done) | (dsimp only [Act.put]; first | rfl | (simp [*]; done) | (simp [*, ptr]; done)))
     case l2c4 =>
      intro xx wz hE hG hA
      have e0 : xx 56 = _ := hG 0 _ rfl
      have e1 : xx 57 = _ := hG 1 _ rfl
      have e2 : xx 58 = _ := hG 2 _ rfl
      have e3 : xx 59 = _ := hG 3 _ rfl
      have e4 : xx 60 = _ := hG 4 _ rfl
      have e5 : xx 61 = _ := hG 5 _ rfl
      have g6 := hG 6 _ rfl
      have e7 : xx 63 = _ := hG 7 _ rfl
      have e8 : xx 64 = _ := hG 8 _ rfl
      have e9 : xx 65 = _ := hG 9 _ rfl
      have e10 : xx 66 = _ := hG 10 _ rfl
      have e11 : xx 67 = _ := hG 11 _ rfl
      have g12 := hG 12 _ rfl
      have g13 := hG 13 _ rfl
      have g14 := hG 14 _ rfl
      obtain ⟨A9, n9, e14, -⟩ := RB.form g14
      obtain ⟨q9, hq9⟩ : ∃ q, decide (s + ck * xk < 0) = q := ⟨_, rfl⟩
      obtain ⟨l9, hl9⟩ : ∃ l, (T.digits (s + ck * xk).natAbs).length = l := ⟨_, rfl⟩
      rw [hq9, hl9] at e14
      have HR9 : Hid (RB wz (.agg #[.bool q9, .slice A9 l9 n9]) (s + ck * xk)) := Lib.hid (by rw [← e14]; exact g14)
      have HKz := Lib.hid (HK.out.ext hE); have HOz := Lib.hid (HO.out.ext hE); have HBz := Lib.hid (HBE.out.trans (hE.mono HBE.out.size))
      have y0 := HKz.out.blk.cell 0 (by simp)
      have y1 := HKz.out.blk.cell 1 (by simp)
      simp only [List.getElem_cons_zero, List.getElem_cons_succ] at y0 y1
      have fr0 := HKz.out.blk.free 0
      have fr1 := HKz.out.blk.free 1
      have hlz := HKz.out.blk.lt
      clear hG hA hE hq9 hl9 g14 a0 a1 c1 c2
      (refine tail_one (i := 15) (by kernel_rfl) rfl ?_; intro K hK; go_simp; refine hK _ _ ?_; clear hK)
      refine wpAny_done (by kernel_rfl) ?_ _
      have hl1 := HLT.out
      go_wp2
      go_roundw
      case rel => exact ⟨k + 1, _, _, _, _, by omega, by go_num, Lib.hid (by rw [HNX.out]; exact HKz.out.put HR9.out), Lib.hid ((HOz.out.other HKz.out HAB.out.1 0 _).otherB HKz.out HR9.out HAB.out.1), Lib.hid ((HBz.out.setCell (p := ⟨bp, 0, none⟩) (by have := HAB.out; dsimp only; omega) _).setCell (p := ⟨bp, 1, none⟩) (by have := HAB.out; dsimp only; omega) _)⟩
      case measure => simp [intOf]; omega
    ·obtain rfl : k = b.length := by omega
     have hk2 : decide ((b.length : Int) < (b.length : Int)) = false := by simp
     have HPR := Lib.hid (HBB.out.ext HBE.out)
     have HQR := Lib.hid (HBC.out.ext HBE.out)
     have f1 := dotN_end HOK.out HXB.out (by omega)
     have f2 := dotN_end HOB.out HYB.out (by omega)
     obtain ⟨s1, hs1⟩ : ∃ x, dotN c xs c.length = x := ⟨_, rfl⟩
     obtain ⟨s2, hs2⟩ : ∃ x, dotN b ys b.length = x := ⟨_, rfl⟩
     rw [hs1] at f1 HO
     rw [hs2] at f2 HK
     obtain ⟨m1, m2, m3⟩ := few_prod f1 HE1.out HEE.out
     obtain ⟨m4, m5, m6⟩ := few_prod f2 HD1.out HD2.out
     have HOD := Lib.hid (fun W => rOf_calls d W (by have := HD1.out; have := HD2.out; omega)); have HOE := Lib.hid (fun W => rOf_calls e W (by have := HE1.out; have := HEE.out; omega))
     have HT1 := Lib.hid (fun v1 v2 W (k1 : RB W v1 s1) (k2 : RB W v2 e) => rTimes_calls v1 v2 s1 e W k1 k2 m1 m2)
     have HT2 := Lib.hid (fun v1 v2 W (k1 : RB W v1 s2) (k2 : RB W v2 d) => rTimes_calls v1 v2 s2 d W k1 k2 m4 m5)
     have hcm := fun v1 v2 W (k1 : RB W v1 (s1 * e)) (k2 : RB W v2 (s2 * d)) => rCompare_calls v1 v2 (s1 * e) (s2 * d) W k1 k2 m3 m6
     obtain ⟨sg, hsg⟩ : ∃ x, sgnI (s1 * e) (s2 * d) = x := ⟨_, rfl⟩
     have hsz := sgnI_zero (s1 * e) (s2 * d)
     rw [hsg] at hcm hsz
     have HCM := Lib.hid hcm; have HSZ := Lib.hid hsz
     have HS1 : Hid (dotZ c xs = s1) := Lib.hid hs1
     have HS2 : Hid (dotZ b ys = s2) := Lib.hid hs2
     obtain ⟨Asl, nsl, csl, rfl⟩ := HK.out.sli
     obtain ⟨Asm, nsm, csm, rfl⟩ := HO.out.sli
     have a0 := HK.out.blk.cell 0 (by simp)
     have a1 := HK.out.blk.cell 1 (by simp)
     have b0 := HO.out.blk.cell 0 (by simp)
     have b1 := HO.out.blk.cell 1 (by simp)
     simp only [List.getElem_cons_zero, List.getElem_cons_succ] at a0 a1 b0 b1
     clear hsg hsz hcm hs1 hs2 f1 f2 m1 m2 m3 m4 m5 m6 x0
     have x1 := HPR.out.cell 1 (by simp)
     have y1 := HQR.out.cell 1 (by simp)
     simp only [List.getElem_cons_zero, List.getElem_cons_succ, List.map_cons, List.map_nil] at x1 y1
     go_wp2_with fail
     refine wp_region_keys (w0 := wr) 12 [71, 72, 73, 74, 75, 76, 77, 78, 79, 80, 81, 82]
      [leafS 71 (.agg #[.bool q2, .slice Asm nsm csm]), leafS 72 (.pointer (some ⟨yp, 1, none⟩)), leafS 73 (.int .i64 e), leaf1 74 (fun v w => RB w v e), leaf1 75 (fun v w => RB w v (s1 * e)), leafS 76 (.agg #[.bool q, .slice Asl nsl csl]), leafS 77 (.pointer (some ⟨xp, 1, none⟩)), leafS 78 (.int .i64 d), leaf1 79 (fun v w => RB w v d), leaf1 80 (fun v w => RB w v (s2 * d)), leafS 81 (.int .i64 sg), leafS 82 (.bool (sg == 0))]
      [] [none, none, none, none, none, none, none, none, none, none, none, none] NoBlk (by kernel_rfl) (by kernel_rfl) (by kernel_rfl) rfl (F := ?cFz) ?zc1 ?zc2 ?zc3 ?zc4
     case zc1 =>
      intro x
      simp only [fullF, Act.put, List.setIfInBounds_toArray, List.set_cons_zero, List.set_cons_succ]
      rfl
     case zc2 =>
      exact ⟨keeps_const _ _ _ _ _ _ _, keeps_const _ _ _ _ _ _ _, keeps_const _ _ _ _ _ _ _, keeps_calm (calm_rb e) _ _ _ _ _, keeps_calm (calm_rb (s1 * e)) _ _ _ _ _, keeps_const _ _ _ _ _ _ _, keeps_const _ _ _ _ _ _ _, keeps_const _ _ _ _ _ _ _, keeps_calm (calm_rb d) _ _ _ _ _, keeps_calm (calm_rb (s2 * d)) _ _ _ _ _, keeps_const _ _ _ _ _ _ _, keeps_const _ _ _ _ _ _ _, trivial⟩
     case zc3 =>
      refine ⟨?_, ?_, ?_, ?_, ?_, ?_, ?_, ?_, ?_, ?_, ?_, ?_, trivial⟩
      all_goals
       intro xx wq HE hd K hK
       have hc := (bcell HE).1
       have a0' := (hc _ _ (cell_lt a0)).trans a0
       have a1' := (hc _ _ (cell_lt a1)).trans a1
       have b0' := (hc _ _ (cell_lt b0)).trans b0
       have b1' := (hc _ _ (cell_lt b1)).trans b1
       have x1' := (hc _ _ (cell_lt x1)).trans x1
       have y1' := (hc _ _ (cell_lt y1)).trans y1
       try have e0 : xx 71 = _ := hd 0 _ (by decide) rfl
       try have e1 : xx 72 = _ := hd 1 _ (by decide) rfl
       try have e2 : xx 73 = _ := hd 2 _ (by decide) rfl
       try have g3 := hd 3 _ (by decide) rfl
       try have g4 := hd 4 _ (by decide) rfl
       try have e5 : xx 76 = _ := hd 5 _ (by decide) rfl
       try have e6 : xx 77 = _ := hd 6 _ (by decide) rfl
       try have e7 : xx 78 = _ := hd 7 _ (by decide) rfl
       try have g8 := hd 8 _ (by decide) rfl
       try have g9 := hd 9 _ (by decide) rfl
       try have e10 : xx 81 = _ := hd 10 _ (by decide) rfl
       try have e11 : xx 82 = _ := hd 11 _ (by decide) rfl
       have HE := Lib.hid HE
       have HC := Lib.hid hc
       clear hd hc
       all_goals go_simp
       try (refine hK _ _ _ (mv_const _ rfl) ?_; dsimp only [Act.put]; first | done | rfl | (simp [*]; done))
      ·refine (HOE.out wq).mono ?_
       rintro e w3 ⟨v, rfl, h1, h2⟩
       exact hK _ _ _ (mv_plain h2 h1.rb rfl) (by first | (dsimp only [Act.put]; done) | (dsimp only [Act.put]; first | rfl | (simp [*]; done) | (simp [*, ptr]; done)))
      ·refine (HT1.out _ _ wq (HO.out.num.ext HE.out) g3).mono ?_
       rintro e w3 ⟨v, rfl, h1, h2⟩
       exact hK _ _ _ (mv_plain h2 h1.rb rfl) (by first | (dsimp only [Act.put]; done) | (dsimp only [Act.put]; first | rfl | (simp [*]; done) | (simp [*, ptr]; done)))
      ·refine (HOD.out wq).mono ?_
       rintro e w3 ⟨v, rfl, h1, h2⟩
       exact hK _ _ _ (mv_plain h2 h1.rb rfl) (by first | (dsimp only [Act.put]; done) | (dsimp only [Act.put]; first | rfl | (simp [*]; done) | (simp [*, ptr]; done)))
      ·refine (HT2.out _ _ wq (HK.out.num.ext HE.out) g8).mono ?_
       rintro e w3 ⟨v, rfl, h1, h2⟩
       exact hK _ _ _ (mv_plain h2 h1.rb rfl) (by first | (dsimp only [Act.put]; done) | (dsimp only [Act.put]; first | rfl | (simp [*]; done) | (simp [*, ptr]; done)))
      ·refine (HCM.out _ _ wq g4 g9).mono ?_
       rintro e w3 ⟨rfl, h2⟩
       exact hK _ _ _ (mv_plain h2 rfl rfl) (by first | (dsimp only [Act.put]; done) | (dsimp only [Act.put]; first | rfl | (simp [*]; done) | (simp [*, ptr]; done)))
     case zc4 =>
      intro xx wz hE hG hA
      have e0 : xx 71 = _ := hG 0 _ rfl
      have e1 : xx 72 = _ := hG 1 _ rfl
      have e2 : xx 73 = _ := hG 2 _ rfl
      have g3 := hG 3 _ rfl
      have g4 := hG 4 _ rfl
      have e5 : xx 76 = _ := hG 5 _ rfl
      have e6 : xx 77 = _ := hG 6 _ rfl
      have e7 : xx 78 = _ := hG 7 _ rfl
      have g8 := hG 8 _ rfl
      have g9 := hG 9 _ rfl
      have e10 : xx 81 = _ := hG 10 _ rfl
      have e11 : xx 82 = _ := hG 11 _ rfl
      have HBz := Lib.hid (HE2.out.trans ((HBE.out.trans (hE.mono HBE.out.size)).mono HE2.out.size))
      clear hG hA hE
      (refine tail_one (i := 12) (by kernel_rfl) rfl ?_; intro K hK; go_simp; refine hK _ _ ?_; clear hK)
      refine wpAny_done (by kernel_rfl) ?_ _
      go_wp2
      go_ret
      exact ⟨by rw [HS1.out, HS2.out, HSZ.out]; rfl, HBz.out⟩
end Go.Proofs.YtkljafmdbajfeaaGreatDoor
