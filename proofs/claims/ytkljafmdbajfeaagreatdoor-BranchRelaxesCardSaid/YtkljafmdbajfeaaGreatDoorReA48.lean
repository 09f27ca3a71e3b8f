/- The row BranchRelaxes. -/
import Derived.Test.YtkljafmdbajfeaaGreatDoorReA09
import Derived.Test.YtkljafmdbajfeaaGreatDoorReA45
import Derived.Test.YtkljafmdbajfeaaGreatDoorReA47
namespace Go.Proofs.YtkljafmdbajfeaaGreatDoor
open Go.RowKit
open Lp (EndFound EndEmpty EndFree)
set_option linter.unusedVariables false
set_option linter.unusedSimpArgs false
def solS (a : List (List Int)) (b c u : List Int) : List Int × Int × Int :=
 if wholeOk a b c u then match bestL c (feasL a b u) with
  | none => ([], 0, 10)
  | some x => (x, dotZ c x, 0)
 else ([], 0, 2)
theorem sol_form {a : List (List Int)} {b c u : List Int} {w : World} {e : Ending} {w' : World} (h : SolvePost a b c u w e w') :
  ∃ S cap, e = .returned (.tuple #[.slice S (solS a b c u).1.length cap, .int .i64 (solS a b c u).2.1, .int .i64 (solS a b c u).2.2]) ∧ Below w.heap.size w w' := by
 obtain ⟨hr, hb⟩ := h
 unfold SolveRes at hr
 unfold solS
 cases hok : wholeOk a b c u
 ·rw [hok] at hr
  simp only [Bool.false_eq_true, if_false] at hr ⊢
  exact ⟨none, 0, hr, hb⟩
 ·rw [hok] at hr
  simp only [if_true] at hr ⊢
  cases hB : bestL c (feasL a b u) with
  | none =>
    rw [hB] at hr
    exact ⟨none, 0, hr, hb⟩
  | some x =>
    rw [hB] at hr
    obtain ⟨g, cap, he, hl, hI⟩ := hr
    exact ⟨_, cap, by dsimp only; rw [hl]; exact he, hb⟩
theorem fold_inL (c : List Int) : ∀ (l : List (List Int)) (x : List Int), l.foldl (fun m y => if dotZ c y < dotZ c m then y else m) x ∈ x :: l
 | [], x => by simp
 | y :: l, x => by
   simp only [List.foldl_cons]
   by_cases h : dotZ c y < dotZ c x
   ·rw [if_pos h]
    have := fold_inL c l y
    simp only [List.mem_cons] at this ⊢
    rcases this with h | h
    ·exact .inr (.inl h)
    ·exact .inr (.inr h)
   ·rw [if_neg h]
    have := fold_inL c l x
    simp only [List.mem_cons] at this ⊢
    rcases this with h | h
    ·exact .inl h
    ·exact .inr (.inr h)
theorem best_inL {c m : List Int} {L : List (List Int)} (h : bestL c L = some m) : m ∈ L := by
 cases L with
 | nil => simp [bestL] at h
 | cons x l => simp only [bestL, Option.some.injEq] at h; rw [← h]; exact fold_inL c l x
theorem box_in : ∀ {u x : List Int}, upOk u = true → x ∈ box u → x.length = u.length ∧ ∀ i, i < x.length → 0 ≤ nth x i ∧ nth x i ≤ 7
 | [], x, _, h => by
   simp [box] at h; subst h; exact ⟨rfl, fun i hi => by simp at hi⟩
 | m :: us, x, hu, h => by
   have hu2 : 0 ≤ m ∧ m ≤ 7 ∧ upOk us = true := by
    unfold upOk at hu; simp only [List.all_cons, Bool.and_eq_true, decide_eq_true_eq] at hu; exact ⟨hu.1.1, hu.1.2, hu.2⟩
   simp only [box, List.mem_flatMap, List.mem_map] at h
   obtain ⟨v, hv, y, hy, rfl⟩ := h
   have hv2 : 0 ≤ v ∧ v ≤ 7 := by
    unfold irange at hv
    obtain ⟨t, ht, rfl⟩ := List.mem_map.1 hv
    have := List.mem_range.1 ht
    have : (Int.ofNat t) = (t : Int) := rfl
    omega
   obtain ⟨h1, h2⟩ := box_in hu2.2.2 hy
   refine ⟨by simp [h1], fun i hi => ?_⟩
   cases i with
   | zero => simpa [nth] using hv2
   | succ i => simpa [nth] using h2 i (by simpa using hi)
theorem relax_feas {a : List (List Int)} {b c u x : List Int} (h : wholeOk a b c u = true) (hx : x ∈ feasL a b u) : feasS a b c x 1 = true ∧ (dotZ c x).natAbs ≤ 42000 := by
 have h5 : c.length ≤ 5 ∧ u.length = c.length ∧ upOk u = true ∧ progOk a b c = true := by
  unfold wholeOk at h; simp only [Bool.and_eq_true, decide_eq_true_eq] at h; exact ⟨h.1.1.1, h.1.1.2, h.1.2, h.2⟩
 obtain ⟨h1, h2, h3, h4⟩ := h5
 unfold feasL at hx
 obtain ⟨hx1, hx2⟩ := List.mem_filter.1 hx
 obtain ⟨hl, hr⟩ := box_in h3 hx1
 constructor
 ·unfold feasS
  have hp : pointOk c.length x 1 = true := by
   unfold pointOk
   rw [listOk_of (m := 1125899906842624) (xs := x) fun i hi => by have := hr i hi; omega, decide_eq_true (by omega)]; rfl
  rw [h4, hp, nnB_iff.2 fun i hi => (hr i hi).1, Bool.true_and, Bool.true_and, Bool.true_and]
  unfold feasB at hx2
  rw [List.all_eq_true] at hx2 ⊢
  intro i hi
  have := hx2 i hi
  rw [Int.mul_one]; exact this
 ·have hc := (progOk_parts h4).2.2.2.2.2
  have hb : ∀ i, i < c.length → -7000 ≤ nth c i * nth x i ∧ nth c i * nth x i ≤ 7000 := fun i hi => by
   have h6 := listOk_nth hc hi
   have h7 := hr i (by omega)
   have := mul_bd (a := 1000) (b := 7) (x := nth c i) (y := nth x i) (by omega) h6 (by omega)
   omega
  have h6 := dotN_bound hb c.length (Nat.le_refl _)
  have h7 : (c.length : Int) * 7000 ≤ 6 * 7000 := Int.mul_le_mul_of_nonneg_right (by omega) (by omega)
  unfold dotZ; omega
set_option maxRecDepth 100000 in
set_option maxHeartbeats 8000000 in
theorem relax_row (A B C U : Option Addr) (ca cb cc cu : Nat) (a : List (List Int)) (b c u : List Int) (w : World) (h : Who w A B C U a b c u) (hT : TabOk 0 costsO w) :
  Calls Tryz.prog 8 #[.agg #[.slice A a.length ca, .slice B b.length cb, .slice C c.length cc, .slice U u.length cu]] w fun e w' => e = .returned (.bool true) ∧ Below w.heap.size w w' := by
 obtain ⟨ua, hua⟩ : ∃ W, w.alloc (.cells #[.slice A a.length ca, .slice B b.length cb, .slice C c.length cc, .slice U u.length cu] 65 (0, 0)) = W := ⟨_, rfl⟩
 have ba : Blk ua w.heap.size [.slice A a.length ca, .slice B b.length cb, .slice C c.length cc, .slice U u.length cu] 65 := by rw [← hua]; exact Blk.new _ _ _
 have ea : Below w.heap.size w ua := by rw [← hua]; exact (Below.refl _ _).alloc (Nat.le_refl _) _
 have HBA := Lib.hid ba; have HE2 := Lib.hid ea
 have HT := Lib.hid hT; have HP := Lib.hid h
 have HV := Lib.hid (light_calls A B C U ca cb cc cu a b c u ua (h.ext ea))
 have p0 := ba.cell 0 (by simp)
 have p1 := ba.cell 1 (by simp)
 have p2 := ba.cell 2 (by simp)
 have p3 := ba.cell 3 (by simp)
 simp only [List.getElem_cons_zero, List.getElem_cons_succ] at p0 p1 p2 p3
 rw [← hua] at p0 p1 p2 p3
 have HUA := Lib.hid hua
 clear ba ea h hua hT
 go_enter Tryz.func8, Tryz.ntmps8
 go_wp2_with fail
 rw [HUA.out]
 clear p0 p1 p2 p3
 obtain ⟨bp, hbp⟩ : ∃ p, w.heap.size = p := ⟨_, rfl⟩
 rw [hbp] at HBA
 rw [hbp]
 have HBP := Lib.hid hbp
 clear hbp
 refine HV.out.mono ?_; rintro e w1 ⟨rfl, hb1⟩
 clear HV
 have HB1 := Lib.hid (HE2.out.trans (hb1.mono HE2.out.size))
 have HBA1 := Lib.hid (HBA.out.ext hb1)
 clear hb1 HE2 HBA
 cases hv : lightB a b c u with
 | false =>
   clear hv
   have HAL := Lib.hid (alive_calls w1)
   go_wp2_with fail
   refine HAL.out.mono ?_; rintro e wz ⟨rfl, hbz⟩
   have HBZ := Lib.hid (HB1.out.trans (hbz.mono HB1.out.size))
   clear hbz HAL
   go_wp2
   go_ret
   exact ⟨rfl, HBZ.out⟩
 | true =>
   clear hv
   have HVA := Lib.hid (refWhole_calls A B C U ca cb cc cu a b c u w1 (HP.out.ext HB1.out))
   have k0 := HBA1.out.cell 0 (by simp)
   have k1 := HBA1.out.cell 1 (by simp)
   have k2 := HBA1.out.cell 2 (by simp)
   have k3 := HBA1.out.cell 3 (by simp)
   simp only [List.getElem_cons_zero, List.getElem_cons_succ, List.map_cons, List.map_nil] at k0 k1 k2 k3
   go_wp2_with fail
   refine HVA.out.mono ?_; rintro e w2 ⟨rfl, hb2⟩
   clear HVA k0 k1 k2 k3
   have HB2 := Lib.hid (HB1.out.trans (hb2.mono HB1.out.size))
   have HBA2 := Lib.hid (HBA1.out.ext hb2)
   clear hb2 HB1 HBA1
   cases hok : wholeOk a b c u with
   | false =>
     clear hok
     have HAL := Lib.hid (alive_calls w2)
     go_wp2_with fail
     refine HAL.out.mono ?_; rintro e wz ⟨rfl, hbz⟩
     have HBZ := Lib.hid (HB2.out.trans (hbz.mono HB2.out.size))
     clear hbz HAL
     go_wp2
     go_ret
     exact ⟨rfl, HBZ.out⟩
   | true =>
     have HOK := Lib.hid hok
     clear hok
     obtain ⟨w3, hw3⟩ : ∃ W, w2.alloc (.cells #[.slice A a.length ca, .slice B b.length cb, .slice C c.length cc] 25 (0, 0)) = W := ⟨_, rfl⟩
     have hb3 : Below w2.heap.size w2 w3 := by rw [← hw3]; exact (Below.refl _ _).alloc (Nat.le_refl _) _
     have HPB : Hid (Blk w3 w2.heap.size [.slice A a.length ca, .slice B b.length cb, .slice C c.length cc] 25) := Lib.hid (by rw [← hw3]; exact Blk.new _ _ _)
     obtain ⟨pp, hpp⟩ : ∃ p, w2.heap.size = p := ⟨_, rfl⟩
     rw [hpp] at HPB
     have HBA2b := Lib.hid (HBA2.out.ext hb3)
     have k0 := HBA2.out.cell 0 (by simp)
     have k1 := HBA2.out.cell 1 (by simp)
     have k2 := HBA2.out.cell 2 (by simp)
     have j3 := HBA2b.out.cell 3 (by simp)
     have j0 := HBA2b.out.cell 0 (by simp)
     have j1 := HBA2b.out.cell 1 (by simp)
     have j2 := HBA2b.out.cell 2 (by simp)
     simp only [List.getElem_cons_zero, List.getElem_cons_succ] at k0 k1 k2 j0 j1 j2 j3
     clear HBA2
     have HB3 := Lib.hid (HB2.out.trans (hb3.mono HB2.out.size))
     clear hb3 HB2
     have HSV := Lib.hid (solve_calls (w := w3) (HP.out.ext HB3.out) : Calls Tryz.prog 49 #[.agg #[.slice A a.length ca, .slice B b.length cb, .slice C c.length cc, .slice U u.length cu]] w3 (SolvePost a b c u w3))
     rw [← hw3] at j0 j1 j2 j3
     have HW3 := Lib.hid hw3; have HPP := Lib.hid hpp
     clear hw3 hpp
     go_wp2_with fail
     rw [HW3.out]
     rw [HPP.out]
     refine HSV.out.mono ?_; intro e w4 hsp
     obtain ⟨S, cs, rfl, hb4⟩ := sol_form hsp
     clear hsp HSV k0 k1 k2 j0 j1 j2 j3 HW3 HPP
     have HB4 := Lib.hid (HB3.out.trans (hb4.mono HB3.out.size))
     have HPB4 := Lib.hid (HPB.out.ext hb4)
     clear hb4 HB3 HPB
     clear HBA2b
     obtain ⟨sx, sc, se, hsv⟩ : ∃ sx sc se, solS a b c u = (sx, sc, se) := ⟨_, _, _, rfl⟩
     have HSV := Lib.hid hsv
     rw [hsv]
     dsimp only
     clear hsv
     have HM := Lib.hid (minimum_calls A B C ca cb cc a b c w4 (HP.out.ext HB4.out).p (HT.out.ext HB4.out))
     have k0 := HPB4.out.cell 0 (by simp)
     have k1 := HPB4.out.cell 1 (by simp)
     have k2 := HPB4.out.cell 2 (by simp)
     simp only [List.getElem_cons_zero, List.getElem_cons_succ, List.map_cons, List.map_nil] at k0 k1 k2
     go_wp2_with fail
     refine HM.out.mono ?_; rintro e w5 ⟨hpost, hb5⟩
     clear HM k0 k1 k2
     have HB5 := Lib.hid (HB4.out.trans (hb5.mono HB4.out.size))
     have HPB5 := Lib.hid (HPB4.out.ext hb5)
     clear hb5 HB4 HPB4
     have hpr : progOk a b c = true := by
      have := HOK.out; unfold wholeOk at this; simp only [Bool.and_eq_true] at this; exact this.2
     have HPR := Lib.hid hpr
     have hse : (∃ x, x ∈ feasL a b u ∧ sc = dotZ c x ∧ se = 0) ∨ (feasL a b u = [] ∧ se = 10) := by
      have h1 := HSV.out
      unfold solS at h1
      rw [if_pos HOK.out] at h1
      cases hB : bestL c (feasL a b u) with
      | none =>
        rw [hB] at h1
        refine .inr ⟨?_, by simp only [Prod.mk.injEq] at h1; exact h1.2.2.symm⟩
        cases hL : feasL a b u with
        | nil => rfl
        | cons y l => rw [hL] at hB; simp [bestL] at hB
      | some x =>
        rw [hB] at h1
        simp only [Prod.mk.injEq] at h1
        exact .inl ⟨x, best_inL hB, h1.2.1.symm, h1.2.2.symm⟩
     have HSE := Lib.hid hse
     clear hse hpr
     rcases hpost with ⟨h1, -⟩ | ⟨-, s, x, y, hs3, hq, h5⟩
     ·rw [HPR.out] at h1; cases h1
     ·rcases hq with ⟨rfl, hf, -⟩ | ⟨rfl, hf, -⟩ | ⟨rfl, hf, -⟩
      ·obtain ⟨g, ms, dm, rfl, hI, hpt⟩ : ∃ g ms dm, e = .returned (.tuple #[.agg #[.slice (some ⟨g, 0, none⟩) c.length c.length, .int .i64 dm], .int .i64 0]) ∧ IBlk w5 g ms ∧ PtOf ms dm c.length x := by
        rcases h5 with ⟨h5, -⟩ | ⟨-, g, ms, dm, h6, -, h8, h9⟩
        ·exact absurd rfl h5
        ·exact ⟨g, ms, dm, h6, h8, h9⟩
       have HF := Lib.hid hf; have HPT := Lib.hid hpt; have HI := Lib.hid hI; have HML := Lib.hid hpt.len
       clear h5 hf hpt hI hs3
       obtain ⟨w6, hw6⟩ : ∃ W, w5.alloc (.cells #[.slice (some ⟨g, 0, none⟩) c.length c.length, .int .i64 dm] 29 (0, 0)) = W := ⟨_, rfl⟩
       have hb6 : Below w5.heap.size w5 w6 := by rw [← hw6]; exact (Below.refl _ _).alloc (Nat.le_refl _) _
       have HQ : Hid (Blk w6 w5.heap.size [.slice (some ⟨g, 0, none⟩) c.length c.length, .int .i64 dm] 29) := Lib.hid (by rw [← hw6]; exact Blk.new _ _ _)
       have HI6 := Lib.hid (Blk.ext HI.out hb6)
       clear HI
       have HB6 := Lib.hid (HB5.out.trans (hb6.mono HB5.out.size))
       have HPB6 := Lib.hid (HPB5.out.ext hb6)
       clear hb6 HB5 HPB5
       obtain ⟨qp, hqp⟩ : ∃ p, w5.heap.size = p := ⟨_, rfl⟩
       rw [hqp] at HQ
       have HW6 := Lib.hid hw6; have HQP := Lib.hid hqp
       clear hqp
       rcases HSE.out with ⟨xv, hxv, hsc, rfl⟩ | ⟨-, rfl⟩
       ·obtain ⟨hfe, hcs⟩ := relax_feas HOK.out hxv
        obtain ⟨v, e, gg, g1, g2, g3, g4, g5, hvx⟩ := value_one A B C (some ⟨g, 0, none⟩) ca cb cc c.length a b c ms dm w6 (HP.out.ext HB6.out).p (IBlk.ints HI6.out) (by rw [HML.out]; have := (progOk_parts HPR.out).1.2; unfold maxLen; omega) HPR.out HPT.out.ok
        rw [HML.out] at hvx
        have hco := found_cost hfe HF.out HPT.out
        have he1 : e ≤ 524880000000 := by
         have h1 := HPT.out.d2
         have h2 : e * 1 ≤ e * gg := Int.mul_le_mul_of_nonneg_left g1 (by omega)
         omega
        obtain ⟨pr, hpr⟩ : ∃ p, sc * e = p := ⟨_, rfl⟩
        have hpb := mul_bd (a := 42000) (b := 524880000000) (x := sc) (y := e) (by omega) (by rw [hsc]; omega) (by omega)
        have hle : v ≤ pr := by
         rw [← hpr, hsc]
         rw [g2, g3, Int.mul_one] at hco
         have h1 : v * gg ≤ dotZ c xv * e * gg := by rw [Int.mul_assoc]; exact hco
         exact Int.le_of_mul_le_mul_right h1 (by omega)
        have wpr : IntKind.i64.wrap (sc * e) = pr := by rw [IntKind.wrap_i64, hpr]; rw [hpr] at hpb; omega
        have HLE := Lib.hid (decide_eq_true hle)
        have HVX := Lib.hid hvx
        have WPR := Lib.hid wpr
        clear hfe hcs hco he1 hpr hpb hle wpr hvx g1 g2 g3 g4 g5 hxv hsc
        have k0 := HPB6.out.cell 0 (by simp)
        have k1 := HPB6.out.cell 1 (by simp)
        have k2 := HPB6.out.cell 2 (by simp)
        have q0 := HQ.out.cell 0 (by simp)
        have q1 := HQ.out.cell 1 (by simp)
        simp only [List.getElem_cons_zero, List.getElem_cons_succ, List.map_cons, List.map_nil] at k0 k1 k2 q0 q1
        rw [← hw6] at k0 k1 k2 q0 q1
        clear hw6
        go_wp2_with fail
        rw [HW6.out]
        rw [HQP.out]
        refine HVX.out.mono ?_; rintro r w7 ⟨vp, rfl, hIV, hb7⟩
        clear HVX k0 k1 k2 q0 q1 HW6 HQP
        have HB7 := Lib.hid (HB6.out.trans (hb7.mono HB6.out.size))
        clear hb7 HB6
        obtain ⟨w8, hw8⟩ : ∃ W, w7.alloc (.cells #[.slice (some ⟨vp, 0, none⟩) 1 1, .int .i64 e] 29 (0, 0)) = W := ⟨_, rfl⟩
        have hb8 : Below w7.heap.size w7 w8 := by rw [← hw8]; exact (Below.refl _ _).alloc (Nat.le_refl _) _
        have HVB : Hid (Blk w8 w7.heap.size [.slice (some ⟨vp, 0, none⟩) 1 1, .int .i64 e] 29) := Lib.hid (by rw [← hw8]; exact Blk.new _ _ _)
        have HIV8 := Lib.hid (Blk.ext hIV hb8)
        clear hIV
        have HB8 := Lib.hid (HB7.out.trans (hb8.mono HB7.out.size))
        clear hb8 HB7
        obtain ⟨vq, hvq⟩ : ∃ p, w7.heap.size = p := ⟨_, rfl⟩
        rw [hvq] at HVB
        have HW8 := Lib.hid hw8; have HVQ := Lib.hid hvq
        clear hw8 hvq
        go_wp2
        rw [HW8.out]
        rw [HVQ.out]
        have v0 := HVB.out.cell 0 (by simp)
        have v1 := HVB.out.cell 1 (by simp)
        simp only [List.getElem_cons_zero, List.getElem_cons_succ, List.map_cons, List.map_nil] at v0 v1
        have i0 := Blk.cell HIV8.out 0 (by simp)
        simp only [List.getElem_cons_zero, List.map_cons, List.map_nil] at i0
        have wpr := WPR.out
        have hle := HLE.out
        have HAL := Lib.hid (fun W (_ : Below w8.heap.size w8 W) => alive_calls W)
        refine wp_region_keys (w0 := w8) 22 [74, 75, 76, 77, 78, 79, 80, 81, 82, 83, 84, 85, 86, 87, 88, 89, 90, 91, 92, 93, 94, 95]
         [leafS 74 (.int .i64 0), leafS 75 (.bool true), leafS 76 (.bool true), leafS 77 (.pointer (some ⟨vq, 0, none⟩)), leafS 78 (.slice (some ⟨vp, 0, none⟩) 1 1), leafS 79 (.int .i64 1), leafS 80 (.bool true), leafS 81 (.bool true), leafS 82 (.bool true), leafS 83 (.pointer (some ⟨vq, 0, none⟩)), leafS 84 (.slice (some ⟨vp, 0, none⟩) 1 1), leafS 85 (.pointer (some ⟨vp, 0, none⟩)), leafS 86 (.int .i64 v), leafS 87 (.int .i64 sc), leafS 88 (.pointer (some ⟨vq, 1, none⟩)), leafS 89 (.int .i64 e), leafS 90 (.int .i64 pr), leafS 91 (.bool true), leafS 92 (.bool true), leafS 93 (.bool true), leafS 94 (.bool true), leafS 95 (.bool true)]
         [] [none, none, none, none, none, none, none, none, none, none, none, none, none, none, none, none, none, none, none, none, none, none] NoBlk (by kernel_rfl) (by kernel_rfl) (by kernel_rfl) rfl (F := ?cFr11) ?r11c1 ?r11c2 ?r11c3 ?r11c4
        case r11c1 =>
         intro x
         simp only [fullF, Act.put, List.setIfInBounds_toArray, List.set_cons_zero, List.set_cons_succ]
         rfl
        case r11c2 =>
         exact ⟨keeps_const _ _ _ _ _ _ _, keeps_const _ _ _ _ _ _ _, keeps_const _ _ _ _ _ _ _, keeps_const _ _ _ _ _ _ _, keeps_const _ _ _ _ _ _ _, keeps_const _ _ _ _ _ _ _, keeps_const _ _ _ _ _ _ _, keeps_const _ _ _ _ _ _ _, keeps_const _ _ _ _ _ _ _, keeps_const _ _ _ _ _ _ _, keeps_const _ _ _ _ _ _ _, keeps_const _ _ _ _ _ _ _, keeps_const _ _ _ _ _ _ _, keeps_const _ _ _ _ _ _ _, keeps_const _ _ _ _ _ _ _, keeps_const _ _ _ _ _ _ _, keeps_const _ _ _ _ _ _ _, keeps_const _ _ _ _ _ _ _, keeps_const _ _ _ _ _ _ _, keeps_const _ _ _ _ _ _ _, keeps_const _ _ _ _ _ _ _, keeps_const _ _ _ _ _ _ _, trivial⟩
        case r11c3 =>
         refine ⟨?_, ?_, ?_, ?_, ?_, ?_, ?_, ?_, ?_, ?_, ?_, ?_, ?_, ?_, ?_, ?_, ?_, ?_, ?_, ?_, ?_, ?_, trivial⟩
         all_goals
          intro xx wq HE hd K hK
          have hc := (bcell HE).1
          have v0' := (hc _ _ (cell_lt v0)).trans v0
          have v1' := (hc _ _ (cell_lt v1)).trans v1
          have i0' := (hc _ _ (cell_lt i0)).trans i0
          try have e0 : xx 74 = _ := hd 0 _ (by decide) rfl
          try have e1 : xx 75 = _ := hd 1 _ (by decide) rfl
          try have e2 : xx 76 = _ := hd 2 _ (by decide) rfl
          try have e3 : xx 77 = _ := hd 3 _ (by decide) rfl
          try have e4 : xx 78 = _ := hd 4 _ (by decide) rfl
          try have e5 : xx 79 = _ := hd 5 _ (by decide) rfl
          try have e6 : xx 80 = _ := hd 6 _ (by decide) rfl
          try have e7 : xx 81 = _ := hd 7 _ (by decide) rfl
          try have e8 : xx 82 = _ := hd 8 _ (by decide) rfl
          try have e9 : xx 83 = _ := hd 9 _ (by decide) rfl
          try have e10 : xx 84 = _ := hd 10 _ (by decide) rfl
          try have e11 : xx 85 = _ := hd 11 _ (by decide) rfl
          try have e12 : xx 86 = _ := hd 12 _ (by decide) rfl
          try have e13 : xx 87 = _ := hd 13 _ (by decide) rfl
          try have e14 : xx 88 = _ := hd 14 _ (by decide) rfl
          try have e15 : xx 89 = _ := hd 15 _ (by decide) rfl
          try have e16 : xx 90 = _ := hd 16 _ (by decide) rfl
          try have e17 : xx 91 = _ := hd 17 _ (by decide) rfl
          try have e18 : xx 92 = _ := hd 18 _ (by decide) rfl
          try have e19 : xx 93 = _ := hd 19 _ (by decide) rfl
          try have e20 : xx 94 = _ := hd 20 _ (by decide) rfl
          try have e21 : xx 95 = _ := hd 21 _ (by decide) rfl
          have HE := Lib.hid HE
          have HC := Lib.hid hc
          clear hd hc
          all_goals go_simp
          try (refine hK _ _ _ (mv_const _ rfl) ?_; dsimp only [Act.put]; first | done | rfl | (simp [*]; done))
         ·refine (HAL.out wq HE.out).mono ?_
          rintro e w8 ⟨rfl, hb⟩
          exact hK _ _ _ (mv_plain hb rfl rfl) (by first | (dsimp only [Act.put]; done) | (dsimp only [Act.put]; first | rfl | (simp [*]; done) | (simp [*, ptr]; done)))
        case r11c4 =>
         intro xx wz hE hG hA
         have e0 : xx 74 = _ := hG 0 _ rfl
         have e1 : xx 75 = _ := hG 1 _ rfl
         have e2 : xx 76 = _ := hG 2 _ rfl
         have e3 : xx 77 = _ := hG 3 _ rfl
         have e4 : xx 78 = _ := hG 4 _ rfl
         have e5 : xx 79 = _ := hG 5 _ rfl
         have e6 : xx 80 = _ := hG 6 _ rfl
         have e7 : xx 81 = _ := hG 7 _ rfl
         have e8 : xx 82 = _ := hG 8 _ rfl
         have e9 : xx 83 = _ := hG 9 _ rfl
         have e10 : xx 84 = _ := hG 10 _ rfl
         have e11 : xx 85 = _ := hG 11 _ rfl
         have e12 : xx 86 = _ := hG 12 _ rfl
         have e13 : xx 87 = _ := hG 13 _ rfl
         have e14 : xx 88 = _ := hG 14 _ rfl
         have e15 : xx 89 = _ := hG 15 _ rfl
         have e16 : xx 90 = _ := hG 16 _ rfl
         have e17 : xx 91 = _ := hG 17 _ rfl
         have e18 : xx 92 = _ := hG 18 _ rfl
         have e19 : xx 93 = _ := hG 19 _ rfl
         have e20 : xx 94 = _ := hG 20 _ rfl
         have e21 : xx 95 = _ := hG 21 _ rfl
         have HBz := Lib.hid (HB8.out.trans (hE.mono HB8.out.size))
         clear hG hA hE
         (refine tail_one (i := 22) (by kernel_rfl) rfl ?_; intro K hK; go_simp; refine hK _ _ ?_; clear hK)
         refine wpAny_done (by kernel_rfl) ?_ _
         go_wp2
         go_ret
         exact ⟨rfl, HBz.out⟩
       ·clear hw6
        go_wp2_with fail
        rw [HW6.out]
        have HAL := Lib.hid (alive_calls w6)
        refine HAL.out.mono ?_; rintro e wz ⟨rfl, hbz⟩
        have HBZ := Lib.hid (HB6.out.trans (hbz.mono HB6.out.size))
        clear hbz HAL
        go_wp2
        go_ret
        exact ⟨rfl, HBZ.out⟩
      ·obtain rfl : e = .returned (.tuple #[.agg #[.slice none 0 0, .int .i64 0], .int .i64 10]) := by
        rcases h5 with ⟨-, h6⟩ | ⟨h6, -⟩
        ·exact h6
        ·cases h6
       have hs10 : se = 10 := by
        rcases HSE.out with ⟨xv, hxv, -, -⟩ | ⟨-, h⟩
        ·exact (empty_feas hf (feasS_feas (relax_feas HOK.out hxv).1)).elim
        ·exact h
       subst hs10
       clear h5 hf hs3
       obtain ⟨w6, hw6⟩ : ∃ W, w5.alloc (.cells #[.slice none 0 0, .int .i64 0] 29 (0, 0)) = W := ⟨_, rfl⟩
       have hb6 : Below w5.heap.size w5 w6 := by rw [← hw6]; exact (Below.refl _ _).alloc (Nat.le_refl _) _
       have HQ : Hid (Blk w6 w5.heap.size [.slice none 0 0, .int .i64 0] 29) := Lib.hid (by rw [← hw6]; exact Blk.new _ _ _)
       clear HQ
       have HB6 := Lib.hid (HB5.out.trans (hb6.mono HB5.out.size))
       clear hb6 HB5
       have HW6 := Lib.hid hw6
       clear hw6
       go_wp2_with fail
       rw [HW6.out]
       have HAL := Lib.hid (alive_calls w6)
       refine HAL.out.mono ?_; rintro e wz ⟨rfl, hbz⟩
       have HBZ := Lib.hid (HB6.out.trans (hbz.mono HB6.out.size))
       clear hbz HAL
       go_wp2
       go_ret
       exact ⟨rfl, HBZ.out⟩
      ·obtain rfl : e = .returned (.tuple #[.agg #[.slice none 0 0, .int .i64 0], .int .i64 11]) := by
        rcases h5 with ⟨-, h6⟩ | ⟨h6, -⟩
        ·exact h6
        ·cases h6
       clear h5 hf hs3
       obtain ⟨w6, hw6⟩ : ∃ W, w5.alloc (.cells #[.slice none 0 0, .int .i64 0] 29 (0, 0)) = W := ⟨_, rfl⟩
       have hb6 : Below w5.heap.size w5 w6 := by rw [← hw6]; exact (Below.refl _ _).alloc (Nat.le_refl _) _
       have HQ : Hid (Blk w6 w5.heap.size [.slice none 0 0, .int .i64 0] 29) := Lib.hid (by rw [← hw6]; exact Blk.new _ _ _)
       clear HQ
       have HB6 := Lib.hid (HB5.out.trans (hb6.mono HB5.out.size))
       clear hb6 HB5
       have HW6 := Lib.hid hw6
       clear hw6
       rcases HSE.out with ⟨xv, hxv, hsc, rfl⟩ | ⟨-, rfl⟩
       ·clear hxv hsc
        go_wp2_with fail
        rw [HW6.out]
        have HAL := Lib.hid (alive_calls w6)
        refine HAL.out.mono ?_; rintro e wz ⟨rfl, hbz⟩
        have HBZ := Lib.hid (HB6.out.trans (hbz.mono HB6.out.size))
        clear hbz HAL
        go_wp2
        go_ret
        exact ⟨rfl, HBZ.out⟩
       ·go_wp2_with fail
        rw [HW6.out]
        have HAL := Lib.hid (alive_calls w6)
        refine HAL.out.mono ?_; rintro e wz ⟨rfl, hbz⟩
        have HBZ := Lib.hid (HB6.out.trans (hbz.mono HB6.out.size))
        clear hbz HAL
        go_wp2
        go_ret
        exact ⟨rfl, HBZ.out⟩
end Go.Proofs.YtkljafmdbajfeaaGreatDoor
