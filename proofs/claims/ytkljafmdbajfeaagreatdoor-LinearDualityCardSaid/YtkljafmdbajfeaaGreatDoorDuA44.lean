/- tinplateref01.Bounds, Denies and Falls: what they answer. -/
import Derived.Test.YtkljafmdbajfeaaGreatDoorDuA43
namespace Go.Proofs.YtkljafmdbajfeaaGreatDoor
open Go.RowKit
set_option linter.unusedVariables false
set_option linter.unusedSimpArgs false
def boundsS (a : List (List Int)) (b c ys : List Int) (d : Int) : Bool := progOk a b c && pointOk a.length ys d && nnB ys && (List.range c.length).all fun j => decide (dotZ (clmOf a j) ys ≤ nth c j * d)
def deniesS (a : List (List Int)) (b c ys : List Int) (d : Int) : Bool := progOk a b c && pointOk a.length ys d && nnB ys && ((List.range c.length).all fun j => decide (dotZ (clmOf a j) ys ≤ 0)) && decide (0 < dotZ b ys)
def fallsS (a : List (List Int)) (b c xs : List Int) (d : Int) : Bool := progOk a b c && pointOk c.length xs d && nnB xs && ((List.range a.length).all fun i => decide (0 ≤ dotZ (nrow a i) xs)) && decide (dotZ c xs < 0)
theorem clmOf_len (a : List (List Int)) (j : Nat) : (clmOf a j).length = a.length := clmTo_len a j a.length
theorem clm_ok {a : List (List Int)} {m : Int} {n : Nat} (h : ∀ r ∈ a, r.length = n ∧ listOk m r = true) {j : Nat} (hj : j < n) : listOk m (clmOf a j) = true := by
 unfold listOk
 refine all_of_nth fun k hk => ?_
 rw [clmOf_len] at hk
 rw [clmOf_nth a j k hk]
 obtain ⟨h1, h2⟩ := h _ (nrow_mem hk)
 unfold listOk at h2
 exact List.all_eq_true.1 h2 _ (nth_mem (by omega))
theorem dual_small {a : List (List Int)} {b c ys : List Int} {d : Int} (h1 : progOk a b c = true) (h2 : pointOk a.length ys d = true) {j : Nat} (hj : j < c.length) : Small (clmOf a j) ys ∧ (clmOf a j).length ≤ ys.length ∧ (clmOf a j).length ≤ 6 := by
 obtain ⟨⟨k1, k2⟩, k3, k4, k5, k6, k7⟩ := progOk_parts h1
 obtain ⟨p1, p2, p3, p4⟩ := pointOk_parts h2
 have hl := clmOf_len a j
 exact ⟨small_of (clm_ok k4 hj) p4 (by omega) (by omega) (n := 6) (by omega) (by omega) (by omega), by omega, by omega⟩
theorem cost_small {a : List (List Int)} {b c xs : List Int} {d : Int} (h1 : progOk a b c = true) (h2 : pointOk c.length xs d = true) : Small c xs ∧ c.length ≤ xs.length := by
 obtain ⟨⟨k1, k2⟩, k3, k4, k5, k6, k7⟩ := progOk_parts h1
 obtain ⟨p1, p2, p3, p4⟩ := pointOk_parts h2
 exact ⟨small_of k7 p4 (by omega) (by omega) (n := 6) (by omega) (by omega) (by omega), by omega⟩
theorem level_small {a : List (List Int)} {b c ys : List Int} {d : Int} (h1 : progOk a b c = true) (h2 : pointOk a.length ys d = true) : Small b ys ∧ b.length ≤ ys.length := by
 obtain ⟨⟨k1, k2⟩, k3, k4, k5, k6, k7⟩ := progOk_parts h1
 obtain ⟨p1, p2, p3, p4⟩ := pointOk_parts h2
 exact ⟨small_of k6 p4 (by omega) (by omega) (n := 6) (by omega) (by omega) (by omega), by omega⟩
theorem isClm_calm (n : Nat) (B : Nat) (xs : List Int) : Calm NoBlk fun v w => ∃ X c, v = .slice X n c ∧ Ints w X xs := ⟨fun v w w' ⟨X, c, h1, h2⟩ hb => ⟨X, c, h1, h2.ext hb⟩, fun v w w' p h hp hb => hp.elim⟩
set_option maxRecDepth 100000 in
set_option maxHeartbeats 4000000 in
theorem falls1_calls (A B C X : Option Addr) (ca cb cc cx : Nat) (a : List (List Int)) (b c xs : List Int) (d : Int) (w : World) (h : Prog3 w A B C a b c) (hX : Ints w X xs) (hm : xs.length ≤ maxLen) :
  Calls Tryz.prog 28 #[.agg #[.slice A a.length ca, .slice B b.length cb, .slice C c.length cc], .agg #[.slice X xs.length cx, .int .i64 d]] w fun e w' => e = .returned (.bool (fallsS a b c xs d)) ∧ Below w.heap.size w w' := by
 obtain ⟨wa, hwa⟩ : ∃ wa, w.alloc (.cells #[.slice A a.length ca, .slice B b.length cb, .slice C c.length cc] 25 (0, 0)) = wa := ⟨_, rfl⟩
 obtain ⟨wb, hwb⟩ : ∃ wb, wa.alloc (.cells #[.slice X xs.length cx, .int .i64 d] 29 (0, 0)) = wb := ⟨_, rfl⟩
 have hlc := h.lc
 have sa : wa.heap.size = w.heap.size + 1 := by rw [← hwa]; simp
 have ba : Blk wa w.heap.size [.slice A a.length ca, .slice B b.length cb, .slice C c.length cc] 25 := by rw [← hwa]; exact Blk.new _ _ _
 have bb : Blk wb (w.heap.size + 1) [.slice X xs.length cx, .int .i64 d] 29 := by rw [← hwb, ← sa]; exact Blk.new _ _ _
 have ea : Below w.heap.size w wa := by rw [← hwa]; exact (Below.refl _ _).alloc (Nat.le_refl _) _
 have eb : Below wa.heap.size wa wb := by rw [← hwb]; exact (Below.refl _ _).alloc (Nat.le_refl _) _
 have e2 : Below w.heap.size w wb := ea.trans (eb.mono (by omega))
 have HBA := Lib.hid (ba.ext eb); have HBB := Lib.hid bb; have HE2 := Lib.hid e2
 have HP := Lib.hid h; have HX := Lib.hid hX
 have HV := Lib.hid (refValid_calls A B C ca cb cc a b c wb (h.ext e2))
 have p0 := (ba.ext eb).cell 0 (by simp)
 have p1 := (ba.ext eb).cell 1 (by simp)
 have p2 := (ba.ext eb).cell 2 (by simp)
 simp only [List.getElem_cons_zero, List.getElem_cons_succ] at p0 p1 p2
 rw [← hwb, ← hwa] at p0 p1 p2
 have HWA := Lib.hid hwa; have HWB := Lib.hid hwb
 clear ba bb ea eb e2 h hX sa hwa hwb
 go_enter Tryz.func28, Tryz.ntmps28
 go_wp2_with fail
 rw [HWA.out, HWB.out]
 clear p0 p1 p2
 obtain ⟨bp, hbp⟩ : ∃ bp, w.heap.size = bp := ⟨_, rfl⟩
 obtain ⟨xp, hxp⟩ : ∃ xp, w.heap.size + 1 = xp := ⟨_, rfl⟩
 rw [hbp] at HBA
 rw [hxp] at HBB
 rw [hxp, hbp]
 have HBP := Lib.hid hbp
 clear hbp hxp
 refine HV.out.mono ?_; rintro e w1 ⟨rfl, hb1⟩
 have HB1 := Lib.hid (HE2.out.trans (hb1.mono HE2.out.size)); have HBA1 := Lib.hid (HBA.out.ext hb1); have HBB1 := Lib.hid (HBB.out.ext hb1)
 clear hb1 HV HBA HBB HE2
 cases hv : progOk a b c with
 | false =>
   have HVV := Lib.hid hv
   clear hv
   go_wp2
   go_ret
   exact ⟨by unfold fallsS; rw [HVV.out]; rfl, HB1.out⟩
 | true =>
   have HVV := Lib.hid hv
   clear hv
   have k0 := HBA1.out.cell 0 (by simp)
   have k2 := HBA1.out.cell 2 (by simp)
   have x0 := HBB1.out.cell 0 (by simp)
   have x1 := HBB1.out.cell 1 (by simp)
   simp only [List.getElem_cons_zero, List.getElem_cons_succ] at k0 k2 x0 x1
   have HPR := Lib.hid (proper1_calls X cx xs d c.length w1 hm hlc (HX.out.ext HB1.out))
   go_wp2_with fail
   refine HPR.out.mono ?_; rintro e w2 ⟨rfl, hb2⟩
   have HB2 := Lib.hid (HB1.out.trans (hb2.mono HB1.out.size)); have HBA2 := Lib.hid (HBA1.out.ext hb2); have HBB2 := Lib.hid (HBB1.out.ext hb2)
   clear hb2 HPR HBA1 HBB1 HB1 k0 k2 x0 x1
   cases hp : pointOk c.length xs d with
   | false =>
     have HPP := Lib.hid hp
     clear hp
     go_wp2
     go_ret
     exact ⟨by unfold fallsS; rw [HVV.out, HPP.out]; rfl, HB2.out⟩
   | true =>
     have HPP := Lib.hid hp
     clear hp
     have k0 := HBA2.out.cell 0 (by simp)
     have x0 := HBB2.out.cell 0 (by simp)
     simp only [List.getElem_cons_zero] at k0 x0
     have HCF := Lib.hid (nonneg1_calls X cx xs w2 hm (HX.out.ext HB2.out))
     go_wp2_with fail
     refine HCF.out.mono ?_; rintro e w3 ⟨rfl, hw3⟩
     have hb3 : Below w2.heap.size w2 w3 := by rw [hw3]; exact Below.refl _ _
     clear hw3
     have HB3 := Lib.hid (HB2.out.trans (hb3.mono HB2.out.size)); have HBA3 := Lib.hid (HBA2.out.ext hb3); have HBB3 := Lib.hid (HBB2.out.ext hb3)
     clear hb3 HCF HBA2 HBB2 HB2 k0 x0
     cases hn : nnB xs with
     | false =>
       have HNN := Lib.hid hn
       clear hn
       go_wp2
       go_ret
       exact ⟨by unfold fallsS; rw [HVV.out, HPP.out, HNN.out]; rfl, HB3.out⟩
     | true =>
       have HNN := Lib.hid hn
       clear hn
       have k0 := HBA3.out.cell 0 (by simp)
       simp only [List.getElem_cons_zero] at k0
       obtain ⟨⟨q1, q2⟩, q3, q4, q5, q6, q7⟩ := progOk_parts HVV.out
       obtain ⟨p1, p2, p3, p4⟩ := pointOk_parts HPP.out
       have H5 := Lib.hid q5; have H6 := Lib.hid q6; have H1 := Lib.hid p1
       clear q4 q5 q6 q7 p1 p4
       go_wp2_with fail
       go_loopw [5] (fun ti wr => ∃ (i : Nat), i ≤ a.length ∧ ti = .int .i64 i ∧ Hid (∀ k, k < i → 0 ≤ dotZ (nrow a k) xs) ∧ Hid (Below w3.heap.size w3 wr)) (fun ti _ => a.length - (intOf ti).toNat)
       case atStart => exact ⟨0, Nat.zero_le _, rfl, Lib.hid (fun k hk => by omega), Lib.hid (Below.refl _ _)⟩
       case round =>
        obtain ⟨i, hi, rfl, hD, hbe⟩ := hrel
        clear k0
        have kh := (HBA3.out.ext hbe.out).cell 0 (by simp)
        simp only [List.getElem_cons_zero, List.getElem_cons_succ] at kh
        by_cases hlt : i < a.length
        ·have hi1 : (i : Int) < a.length := by omega
         have hbw := HB3.out.trans (hbe.out.mono HB3.out.size)
         have hP := HP.out.ext hbw
         obtain ⟨bb, o, R, cR, rfl, hrc, hcR, hints⟩ := hP.ga i hlt
         have x0 := (HBB3.out.ext hbe.out).cell 0 (by simp)
         simp only [List.getElem_cons_zero] at x0
         obtain ⟨hs, hl, -⟩ := point_small HVV.out HPP.out hlt
         have HDT := Lib.hid (fun W (hW : Below wr.heap.size wr W) => dot1_calls R X cR cx (nrow a i) xs W hl (by omega) (hints.ext hW) ((HX.out.ext hbw).ext hW) hs)
         have HBW := Lib.hid hbw
         clear hP hcR hints hs hbw
         go_wp2_with fail
         refine wp_region_keys (w0 := wr) 8 [30, 31, 32, 33, 34, 35, 36, 37]
          [leafS 30 (.pointer (some ⟨bp, 0, none⟩)), leafS 31 (.slice (some ⟨bb, o, none⟩) a.length ca), leafS 32 (.int .i64 i), leafS 33 (.pointer (some ⟨bb, o + i, none⟩)), leafS 34 (.slice R (nrow a i).length cR), leafS 35 (.pointer (some ⟨xp, 0, none⟩)), leafS 36 (.slice X xs.length cx), leafS 37 (.int .i64 (dotZ (nrow a i) xs))]
          [] [none, none, none, none, none, none, none, none] (fun _ _ => False) (by kernel_rfl) (by kernel_rfl) (by kernel_rfl) rfl (F := ?cFr6) ?r6c1 ?r6c2 ?r6c3 ?r6c4
         case r6c1 =>
          intro x
          simp only [fullF, Act.put, List.setIfInBounds_toArray, List.set_cons_zero, List.set_cons_succ]
          rfl
         case r6c2 =>
          exact ⟨keeps_const _ _ _ _ _ _ _, keeps_const _ _ _ _ _ _ _, keeps_const _ _ _ _ _ _ _, keeps_const _ _ _ _ _ _ _, keeps_const _ _ _ _ _ _ _, keeps_const _ _ _ _ _ _ _, keeps_const _ _ _ _ _ _ _, keeps_const _ _ _ _ _ _ _, trivial⟩
         case r6c3 =>
          refine ⟨?_, ?_, ?_, ?_, ?_, ?_, ?_, ?_, trivial⟩
          all_goals
           intro xx wq HE hd K hK
           have hc := (bcell HE).1
           have kh' := (hc _ _ (cell_lt kh)).trans kh
           have x0' := (hc _ _ (cell_lt x0)).trans x0
           have hrc' := (hc _ _ (cell_lt hrc)).trans hrc
           try have e0 : xx 30 = _ := hd 0 _ (by decide) rfl
           try have e1 : xx 31 = _ := hd 1 _ (by decide) rfl
           try have e2 : xx 32 = _ := hd 2 _ (by decide) rfl
           try have e3 : xx 33 = _ := hd 3 _ (by decide) rfl
           try have e4 : xx 34 = _ := hd 4 _ (by decide) rfl
           try have e5 : xx 35 = _ := hd 5 _ (by decide) rfl
           try have e6 : xx 36 = _ := hd 6 _ (by decide) rfl
           try have e7 : xx 37 = _ := hd 7 _ (by decide) rfl
           have HE := Lib.hid HE
           have HC := Lib.hid hc
           clear hd hc
           all_goals go_simp
           try (refine hK _ _ _ (mv_const _ rfl) ?_; dsimp only [Act.put]; first | done | rfl | (simp [*]; done))
          ·refine (HDT.out wq HE.out).mono ?_
           rintro e w2 ⟨rfl, kq, hkq⟩
           exact hK _ _ _ (mv_plain (by rw [hkq]; exact drewN_below _ _) rfl rfl) (by first | (dsimp only [Act.put]; done) | (dsimp only [Act.put]; first | rfl | (simp [*]; done) | (simp [*, ptr]; done)))
         case r6c4 =>
          intro xx wz hE hG hA
          have e0 : xx 30 = _ := hG 0 _ rfl
          have e1 : xx 31 = _ := hG 1 _ rfl
          have e2 : xx 32 = _ := hG 2 _ rfl
          have e3 : xx 33 = _ := hG 3 _ rfl
          have e4 : xx 34 = _ := hG 4 _ rfl
          have e5 : xx 35 = _ := hG 5 _ rfl
          have e6 : xx 36 = _ := hG 6 _ rfl
          have e7 : xx 37 = _ := hG 7 _ rfl
          have HE := Lib.hid (hbe.out.trans (hE.mono hbe.out.size))
          clear hG hA hE
          (refine tail_one (i := 8) (by kernel_rfl) rfl ?_; intro K hK; go_simp; refine hK _ _ ?_; clear hK)
          refine wpAny_done (by kernel_rfl) ?_ _
          obtain ⟨dz, hdz⟩ : ∃ dz, dotZ (nrow a i) xs = dz := ⟨_, rfl⟩
          rw [hdz]
          have HDZ := Lib.hid hdz
          clear hdz
          by_cases hlz : dz < 0
          ·have hd2 : decide (dz < 0) = true := decide_eq_true hlz
           have HLZ := Lib.hid hlz
           go_wp2
           go_ret
           refine ⟨?_, HB3.out.trans (HE.out.mono HB3.out.size)⟩
           unfold fallsS
           rw [all_range_false (i := i) (by omega) (decide_eq_false (by rw [HDZ.out]; have := HLZ.out; omega)), Bool.and_false, Bool.false_and]; rfl
          ·have hd2 : decide (dz < 0) = false := decide_eq_false hlz
           have HN2 : Hid (∀ k, k < i + 1 → 0 ≤ dotZ (nrow a k) xs) := Lib.hid (fun k hk => by
            by_cases e : k = i
            ·subst e; rw [HDZ.out]; omega
            ·exact hD.out k (by omega))
           clear hD
           go_wp2
           go_roundw
           case rel => exact ⟨i + 1, by omega, by go_num, HN2, HE⟩
           case measure => simp [intOf]; omega
        ·obtain rfl : i = a.length := by omega
         have hbw := HB3.out.trans (hbe.out.mono HB3.out.size)
         have hP := HP.out.ext hbw
         have hv := hP.gc
         have kz := (HBA3.out.ext hbe.out).cell 2 (by simp)
         have x0 := (HBB3.out.ext hbe.out).cell 0 (by simp)
         simp only [List.getElem_cons_zero, List.getElem_cons_succ] at kz x0
         obtain ⟨hs, hl⟩ := cost_small HVV.out HPP.out
         have hll := hP.lc
         have HDT := Lib.hid (dot1_calls _ X cc cx c xs wr hl hll hv (HX.out.ext hbw) hs)
         clear hP hv hs hbw
         go_wp2_with fail
         refine HDT.out.mono ?_
         rintro e w5 ⟨rfl, kq, hkq⟩
         have HB5 : Hid (Below wr.heap.size wr w5) := Lib.hid (by rw [hkq]; exact drewN_below _ _)
         clear hkq HDT
         go_wp2
         go_ret
         refine ⟨?_, (HB3.out.trans (hbe.out.mono HB3.out.size)).trans (HB5.out.mono (Nat.le_trans HB3.out.size hbe.out.size))⟩
         unfold fallsS; rw [HVV.out, HPP.out, HNN.out, all_range_true fun i hi => decide_eq_true (hD.out i hi)]; rfl
set_option maxRecDepth 100000 in
set_option maxHeartbeats 4000000 in
theorem denies1_calls (A B C X : Option Addr) (ca cb cc cx : Nat) (a : List (List Int)) (b c xs : List Int) (d : Int) (w : World) (h : Prog3 w A B C a b c) (hX : Ints w X xs) (hm : xs.length ≤ maxLen) :
  Calls Tryz.prog 27 #[.agg #[.slice A a.length ca, .slice B b.length cb, .slice C c.length cc], .agg #[.slice X xs.length cx, .int .i64 d]] w fun e w' => e = .returned (.bool (deniesS a b c xs d)) ∧ Below w.heap.size w w' := by
 obtain ⟨wa, hwa⟩ : ∃ wa, w.alloc (.cells #[.slice A a.length ca, .slice B b.length cb, .slice C c.length cc] 25 (0, 0)) = wa := ⟨_, rfl⟩
 obtain ⟨wb, hwb⟩ : ∃ wb, wa.alloc (.cells #[.slice X xs.length cx, .int .i64 d] 29 (0, 0)) = wb := ⟨_, rfl⟩
 have hlc := h.lc
 have hla := h.la
 have sa : wa.heap.size = w.heap.size + 1 := by rw [← hwa]; simp
 have ba : Blk wa w.heap.size [.slice A a.length ca, .slice B b.length cb, .slice C c.length cc] 25 := by rw [← hwa]; exact Blk.new _ _ _
 have bb : Blk wb (w.heap.size + 1) [.slice X xs.length cx, .int .i64 d] 29 := by rw [← hwb, ← sa]; exact Blk.new _ _ _
 have ea : Below w.heap.size w wa := by rw [← hwa]; exact (Below.refl _ _).alloc (Nat.le_refl _) _
 have eb : Below wa.heap.size wa wb := by rw [← hwb]; exact (Below.refl _ _).alloc (Nat.le_refl _) _
 have e2 : Below w.heap.size w wb := ea.trans (eb.mono (by omega))
 have HBA := Lib.hid (ba.ext eb); have HBB := Lib.hid bb; have HE2 := Lib.hid e2
 have HP := Lib.hid h; have HX := Lib.hid hX
 have HV := Lib.hid (refValid_calls A B C ca cb cc a b c wb (h.ext e2))
 have p0 := (ba.ext eb).cell 0 (by simp)
 have p1 := (ba.ext eb).cell 1 (by simp)
 have p2 := (ba.ext eb).cell 2 (by simp)
 simp only [List.getElem_cons_zero, List.getElem_cons_succ] at p0 p1 p2
 rw [← hwb, ← hwa] at p0 p1 p2
 have HWA := Lib.hid hwa; have HWB := Lib.hid hwb
 clear ba bb ea eb e2 h hX sa hwa hwb
 go_enter Tryz.func27, Tryz.ntmps27
 go_wp2_with fail
 rw [HWA.out, HWB.out]
 clear p0 p1 p2
 obtain ⟨bp, hbp⟩ : ∃ bp, w.heap.size = bp := ⟨_, rfl⟩
 obtain ⟨xp, hxp⟩ : ∃ xp, w.heap.size + 1 = xp := ⟨_, rfl⟩
 rw [hbp] at HBA
 rw [hxp] at HBB
 rw [hxp, hbp]
 have HBP := Lib.hid hbp
 clear hbp hxp
 refine HV.out.mono ?_; rintro e w1 ⟨rfl, hb1⟩
 have HB1 := Lib.hid (HE2.out.trans (hb1.mono HE2.out.size)); have HBA1 := Lib.hid (HBA.out.ext hb1); have HBB1 := Lib.hid (HBB.out.ext hb1)
 clear hb1 HV HBA HBB HE2
 cases hv : progOk a b c with
 | false =>
   have HVV := Lib.hid hv
   clear hv
   go_wp2
   go_ret
   exact ⟨by unfold deniesS; rw [HVV.out]; rfl, HB1.out⟩
 | true =>
   have HVV := Lib.hid hv
   clear hv
   have k0 := HBA1.out.cell 0 (by simp)
   have x0 := HBB1.out.cell 0 (by simp)
   have x1 := HBB1.out.cell 1 (by simp)
   simp only [List.getElem_cons_zero, List.getElem_cons_succ] at k0 x0 x1
   have HPR := Lib.hid (proper1_calls X cx xs d a.length w1 hm hla (HX.out.ext HB1.out))
   go_wp2_with fail
   refine HPR.out.mono ?_; rintro e w2 ⟨rfl, hb2⟩
   have HB2 := Lib.hid (HB1.out.trans (hb2.mono HB1.out.size)); have HBA2 := Lib.hid (HBA1.out.ext hb2); have HBB2 := Lib.hid (HBB1.out.ext hb2)
   clear hb2 HPR HBA1 HBB1 HB1 k0 x0 x1
   cases hp : pointOk a.length xs d with
   | false =>
     have HPP := Lib.hid hp
     clear hp
     go_wp2
     go_ret
     exact ⟨by unfold deniesS; rw [HVV.out, HPP.out]; rfl, HB2.out⟩
   | true =>
     have HPP := Lib.hid hp
     clear hp
     have k0 := HBA2.out.cell 0 (by simp)
     have x0 := HBB2.out.cell 0 (by simp)
     simp only [List.getElem_cons_zero] at k0 x0
     have HCF := Lib.hid (nonneg1_calls X cx xs w2 hm (HX.out.ext HB2.out))
     go_wp2_with fail
     refine HCF.out.mono ?_; rintro e w3 ⟨rfl, hw3⟩
     have hb3 : Below w2.heap.size w2 w3 := by rw [hw3]; exact Below.refl _ _
     clear hw3
     have HB3 := Lib.hid (HB2.out.trans (hb3.mono HB2.out.size)); have HBA3 := Lib.hid (HBA2.out.ext hb3); have HBB3 := Lib.hid (HBB2.out.ext hb3)
     clear hb3 HCF HBA2 HBB2 HB2 k0 x0
     cases hn : nnB xs with
     | false =>
       have HNN := Lib.hid hn
       clear hn
       go_wp2
       go_ret
       exact ⟨by unfold deniesS; rw [HVV.out, HPP.out, HNN.out]; rfl, HB3.out⟩
     | true =>
       have HNN := Lib.hid hn
       clear hn
       have k0 := HBA3.out.cell 0 (by simp)
       simp only [List.getElem_cons_zero] at k0
       obtain ⟨⟨q1, q2⟩, q3, q4, q5, q6, q7⟩ := progOk_parts HVV.out
       obtain ⟨p1, p2, p3, p4⟩ := pointOk_parts HPP.out
       have H5 := Lib.hid q5; have H6 := Lib.hid q6; have H1 := Lib.hid p1
       clear q4 q5 q6 q7 p1 p4
       go_wp2_with fail
       go_loopw [5] (fun ti wr => ∃ (i : Nat), i ≤ c.length ∧ ti = .int .i64 i ∧ Hid (∀ k, k < i → dotZ (clmOf a k) xs ≤ 0) ∧ Hid (Below w3.heap.size w3 wr)) (fun ti _ => c.length - (intOf ti).toNat)
       case atStart => exact ⟨0, Nat.zero_le _, rfl, Lib.hid (fun k hk => by omega), Lib.hid (Below.refl _ _)⟩
       case round =>
        obtain ⟨i, hi, rfl, hD, hbe⟩ := hrel
        clear k0
        have kh := (HBA3.out.ext hbe.out).cell 2 (by simp)
        simp only [List.getElem_cons_zero, List.getElem_cons_succ] at kh
        by_cases hlt : i < c.length
        ·have hi1 : (i : Int) < c.length := by omega
         have hbw := HB3.out.trans (hbe.out.mono HB3.out.size)
         have hP := HP.out.ext hbw
         have k0 := (HBA3.out.ext hbe.out).cell 0 (by simp)
         have x0 := (HBB3.out.ext hbe.out).cell 0 (by simp)
         have x1 := (HBB3.out.ext hbe.out).cell 1 (by simp)
         simp only [List.getElem_cons_zero, List.getElem_cons_succ] at k0 x0 x1
         obtain ⟨hs, hl, hl6⟩ := dual_small HVV.out HPP.out hlt
         obtain ⟨⟨y1, y2⟩, y3, y4, -⟩ := progOk_parts HVV.out
         have hcl := clmOf_len a i
         have HCL := Lib.hid (fun W (hW : Below wr.heap.size wr W) => column_calls A ca a i W (hP.ga.ext hW) (by omega) (by omega) (fun k hk => by rw [(y4 _ (nrow_mem hk)).1]; exact hlt) (fun k hk => by rw [(y4 _ (nrow_mem hk)).1]; omega))
         have HDT := Lib.hid (fun W (hW : Below wr.heap.size wr W) Y cy (hY : Ints W Y (clmOf a i)) => dot1_calls Y X cy cx (clmOf a i) xs W hl (by unfold maxLen; omega) hY ((HX.out.ext hbw).ext hW) hs)
         have HBW := Lib.hid hbw
         clear hP hs hbw y4 hcl
         go_wp2_with fail
         refine wp_region_keys (w0 := wr) 7 [30, 31, 32, 33, 34, 35, 36]
          [leafS 30 (.pointer (some ⟨bp, 0, none⟩)), leafS 31 (.slice A a.length ca), leafS 32 (.int .i64 i), leaf1 33 (fun v w => ∃ Y cy, v = .slice Y (clmOf a i).length cy ∧ Ints w Y (clmOf a i)), leafS 34 (.pointer (some ⟨xp, 0, none⟩)), leafS 35 (.slice X xs.length cx), leafS 36 (.int .i64 (dotZ (clmOf a i) xs))]
          [] [none, none, none, none, none, none, none] (fun _ _ => False) (by kernel_rfl) (by kernel_rfl) (by kernel_rfl) rfl (F := ?cFr6) ?r6c1 ?r6c2 ?r6c3 ?r6c4
         case r6c1 =>
          intro x
          simp only [fullF, Act.put, List.setIfInBounds_toArray, List.set_cons_zero, List.set_cons_succ]
          rfl
         case r6c2 =>
          exact ⟨keeps_const _ _ _ _ _ _ _, keeps_const _ _ _ _ _ _ _, keeps_const _ _ _ _ _ _ _, keeps_calm (isClm_calm _ 0 _) _ _ _ _ _, keeps_const _ _ _ _ _ _ _, keeps_const _ _ _ _ _ _ _, keeps_const _ _ _ _ _ _ _, trivial⟩
         case r6c3 =>
          refine ⟨?_, ?_, ?_, ?_, ?_, ?_, ?_, trivial⟩
          all_goals
           intro xx wq HE hd K hK
           have hc := (bcell HE).1
           have k0' := (hc _ _ (cell_lt k0)).trans k0
           have x0' := (hc _ _ (cell_lt x0)).trans x0
           try have e0 : xx 30 = _ := hd 0 _ (by decide) rfl
           try have e1 : xx 31 = _ := hd 1 _ (by decide) rfl
           try have e2 : xx 32 = _ := hd 2 _ (by decide) rfl
           try have g3 := hd 3 _ (by decide) rfl
           try have e4 : xx 34 = _ := hd 4 _ (by decide) rfl
           try have e5 : xx 35 = _ := hd 5 _ (by decide) rfl
           try have e6 : xx 36 = _ := hd 6 _ (by decide) rfl
           have HE := Lib.hid HE
           have HC := Lib.hid hc
           clear hd hc
           all_goals go_simp
           try (refine hK _ _ _ (mv_const _ rfl) ?_; dsimp only [Act.put]; first | done | rfl | (simp [*]; done))
          ·refine (HCL.out wq HE.out).mono ?_
           rintro e w2 ⟨Y, cy, rfl, -, -, hY, hb⟩
           exact hK _ _ _ (mv_plain hb ⟨Y, cy, rfl, hY⟩ rfl) (by first | (dsimp only [Act.put]; done) | (dsimp only [Act.put]; first | rfl | (simp [*]; done) | (simp [*, ptr]; done)))
          ·obtain ⟨Y, cy, h33, hY⟩ := g3
           rw [h33]
           refine (HDT.out wq HE.out Y cy hY).mono ?_
           rintro e w2 ⟨rfl, kq, hkq⟩
           exact hK _ _ _ (mv_plain (by rw [hkq]; exact drewN_below _ _) rfl rfl) (by first | (dsimp only [Act.put]; done) | (dsimp only [Act.put]; first | rfl | (simp [*]; done) | (simp [*, ptr]; done)))
         case r6c4 =>
          intro xx wz hE hG hA
          have e0 : xx 30 = _ := hG 0 _ rfl
          have e1 : xx 31 = _ := hG 1 _ rfl
          have e2 : xx 32 = _ := hG 2 _ rfl
          have g3 := hG 3 _ rfl
          have e4 : xx 34 = _ := hG 4 _ rfl
          have e5 : xx 35 = _ := hG 5 _ rfl
          have e6 : xx 36 = _ := hG 6 _ rfl
          have HE := Lib.hid (hbe.out.trans (hE.mono hbe.out.size))
          clear hG hA hE
          (refine tail_one (i := 7) (by kernel_rfl) rfl ?_; intro K hK; go_simp; refine hK _ _ ?_; clear hK)
          refine wpAny_done (by kernel_rfl) ?_ _
          obtain ⟨dz, hdz⟩ : ∃ dz, dotZ (clmOf a i) xs = dz := ⟨_, rfl⟩
          rw [hdz]
          have HDZ := Lib.hid hdz
          clear hdz
          by_cases hlz : 0 < dz
          ·have hd2 : decide (0 < dz) = true := decide_eq_true hlz
           have HLZ := Lib.hid hlz
           go_wp2
           go_ret
           refine ⟨?_, HB3.out.trans (HE.out.mono HB3.out.size)⟩
           unfold deniesS
           rw [all_range_false (i := i) (by omega) (decide_eq_false (by rw [HDZ.out]; have := HLZ.out; omega)), Bool.and_false, Bool.false_and]; rfl
          ·have hd2 : decide (0 < dz) = false := decide_eq_false hlz
           have HN2 : Hid (∀ k, k < i + 1 → dotZ (clmOf a k) xs ≤ 0) := Lib.hid (fun k hk => by
            by_cases e : k = i
            ·subst e; rw [HDZ.out]; omega
            ·exact hD.out k (by omega))
           clear hD
           go_wp2
           go_roundw
           case rel => exact ⟨i + 1, by omega, by go_num, HN2, HE⟩
           case measure => simp [intOf]; omega
        ·obtain rfl : i = c.length := by omega
         have hbw := HB3.out.trans (hbe.out.mono HB3.out.size)
         have hP := HP.out.ext hbw
         have hv := hP.gb
         have kz := (HBA3.out.ext hbe.out).cell 1 (by simp)
         have x0 := (HBB3.out.ext hbe.out).cell 0 (by simp)
         simp only [List.getElem_cons_zero, List.getElem_cons_succ] at kz x0
         obtain ⟨hs, hl⟩ := level_small HVV.out HPP.out
         have hll := hP.lb
         have HDT := Lib.hid (dot1_calls _ X cb cx b xs wr hl hll hv (HX.out.ext hbw) hs)
         clear hP hv hs hbw
         go_wp2_with fail
         refine HDT.out.mono ?_
         rintro e w5 ⟨rfl, kq, hkq⟩
         have HB5 : Hid (Below wr.heap.size wr w5) := Lib.hid (by rw [hkq]; exact drewN_below _ _)
         clear hkq HDT
         go_wp2
         go_ret
         refine ⟨?_, (HB3.out.trans (hbe.out.mono HB3.out.size)).trans (HB5.out.mono (Nat.le_trans HB3.out.size hbe.out.size))⟩
         unfold deniesS; rw [HVV.out, HPP.out, HNN.out, all_range_true fun i hi => decide_eq_true (hD.out i hi)]; rfl
set_option maxRecDepth 100000 in
set_option maxHeartbeats 4000000 in
theorem bounds1_calls (A B C X : Option Addr) (ca cb cc cx : Nat) (a : List (List Int)) (b c xs : List Int) (d : Int) (w : World) (h : Prog3 w A B C a b c) (hX : Ints w X xs) (hm : xs.length ≤ maxLen) :
  Calls Tryz.prog 25 #[.agg #[.slice A a.length ca, .slice B b.length cb, .slice C c.length cc], .agg #[.slice X xs.length cx, .int .i64 d]] w fun e w' => e = .returned (.bool (boundsS a b c xs d)) ∧ Below w.heap.size w w' := by
 obtain ⟨wa, hwa⟩ : ∃ wa, w.alloc (.cells #[.slice A a.length ca, .slice B b.length cb, .slice C c.length cc] 25 (0, 0)) = wa := ⟨_, rfl⟩
 obtain ⟨wb, hwb⟩ : ∃ wb, wa.alloc (.cells #[.slice X xs.length cx, .int .i64 d] 29 (0, 0)) = wb := ⟨_, rfl⟩
 have hlc := h.lc
 have hla := h.la
 have sa : wa.heap.size = w.heap.size + 1 := by rw [← hwa]; simp
 have ba : Blk wa w.heap.size [.slice A a.length ca, .slice B b.length cb, .slice C c.length cc] 25 := by rw [← hwa]; exact Blk.new _ _ _
 have bb : Blk wb (w.heap.size + 1) [.slice X xs.length cx, .int .i64 d] 29 := by rw [← hwb, ← sa]; exact Blk.new _ _ _
 have ea : Below w.heap.size w wa := by rw [← hwa]; exact (Below.refl _ _).alloc (Nat.le_refl _) _
 have eb : Below wa.heap.size wa wb := by rw [← hwb]; exact (Below.refl _ _).alloc (Nat.le_refl _) _
 have e2 : Below w.heap.size w wb := ea.trans (eb.mono (by omega))
 have HBA := Lib.hid (ba.ext eb); have HBB := Lib.hid bb; have HE2 := Lib.hid e2
 have HP := Lib.hid h; have HX := Lib.hid hX
 have HV := Lib.hid (refValid_calls A B C ca cb cc a b c wb (h.ext e2))
 have p0 := (ba.ext eb).cell 0 (by simp)
 have p1 := (ba.ext eb).cell 1 (by simp)
 have p2 := (ba.ext eb).cell 2 (by simp)
 simp only [List.getElem_cons_zero, List.getElem_cons_succ] at p0 p1 p2
 rw [← hwb, ← hwa] at p0 p1 p2
 have HWA := Lib.hid hwa; have HWB := Lib.hid hwb
 clear ba bb ea eb e2 h hX sa hwa hwb
 go_enter Tryz.func25, Tryz.ntmps25
 go_wp2_with fail
 rw [HWA.out, HWB.out]
 clear p0 p1 p2
 obtain ⟨bp, hbp⟩ : ∃ bp, w.heap.size = bp := ⟨_, rfl⟩
 obtain ⟨xp, hxp⟩ : ∃ xp, w.heap.size + 1 = xp := ⟨_, rfl⟩
 rw [hbp] at HBA
 rw [hxp] at HBB
 rw [hxp, hbp]
 have HBP := Lib.hid hbp
 clear hbp hxp
 refine HV.out.mono ?_; rintro e w1 ⟨rfl, hb1⟩
 have HB1 := Lib.hid (HE2.out.trans (hb1.mono HE2.out.size)); have HBA1 := Lib.hid (HBA.out.ext hb1); have HBB1 := Lib.hid (HBB.out.ext hb1)
 clear hb1 HV HBA HBB HE2
 cases hv : progOk a b c with
 | false =>
   have HVV := Lib.hid hv
   clear hv
   go_wp2
   go_ret
   exact ⟨by unfold boundsS; rw [HVV.out]; rfl, HB1.out⟩
 | true =>
   have HVV := Lib.hid hv
   clear hv
   have k0 := HBA1.out.cell 0 (by simp)
   have x0 := HBB1.out.cell 0 (by simp)
   have x1 := HBB1.out.cell 1 (by simp)
   simp only [List.getElem_cons_zero, List.getElem_cons_succ] at k0 x0 x1
   have HPR := Lib.hid (proper1_calls X cx xs d a.length w1 hm hla (HX.out.ext HB1.out))
   go_wp2_with fail
   refine HPR.out.mono ?_; rintro e w2 ⟨rfl, hb2⟩
   have HB2 := Lib.hid (HB1.out.trans (hb2.mono HB1.out.size)); have HBA2 := Lib.hid (HBA1.out.ext hb2); have HBB2 := Lib.hid (HBB1.out.ext hb2)
   clear hb2 HPR HBA1 HBB1 HB1 k0 x0 x1
   cases hp : pointOk a.length xs d with
   | false =>
     have HPP := Lib.hid hp
     clear hp
     go_wp2
     go_ret
     exact ⟨by unfold boundsS; rw [HVV.out, HPP.out]; rfl, HB2.out⟩
   | true =>
     have HPP := Lib.hid hp
     clear hp
     have k0 := HBA2.out.cell 0 (by simp)
     have x0 := HBB2.out.cell 0 (by simp)
     simp only [List.getElem_cons_zero] at k0 x0
     have HCF := Lib.hid (nonneg1_calls X cx xs w2 hm (HX.out.ext HB2.out))
     go_wp2_with fail
     refine HCF.out.mono ?_; rintro e w3 ⟨rfl, hw3⟩
     have hb3 : Below w2.heap.size w2 w3 := by rw [hw3]; exact Below.refl _ _
     clear hw3
     have HB3 := Lib.hid (HB2.out.trans (hb3.mono HB2.out.size)); have HBA3 := Lib.hid (HBA2.out.ext hb3); have HBB3 := Lib.hid (HBB2.out.ext hb3)
     clear hb3 HCF HBA2 HBB2 HB2 k0 x0
     cases hn : nnB xs with
     | false =>
       have HNN := Lib.hid hn
       clear hn
       go_wp2
       go_ret
       exact ⟨by unfold boundsS; rw [HVV.out, HPP.out, HNN.out]; rfl, HB3.out⟩
     | true =>
       have HNN := Lib.hid hn
       clear hn
       have k0 := HBA3.out.cell 0 (by simp)
       simp only [List.getElem_cons_zero] at k0
       obtain ⟨⟨q1, q2⟩, q3, q4, q5, q6, q7⟩ := progOk_parts HVV.out
       obtain ⟨p1, p2, p3, p4⟩ := pointOk_parts HPP.out
       have H5 := Lib.hid q5; have H6 := Lib.hid q7; have H1 := Lib.hid p1
       clear q4 q5 q6 q7 p1 p4
       go_wp2_with fail
       go_loopw [5] (fun ti wr => ∃ (i : Nat), i ≤ c.length ∧ ti = .int .i64 i ∧ Hid (∀ k, k < i → dotZ (clmOf a k) xs ≤ nth c k * d) ∧ Hid (Below w3.heap.size w3 wr)) (fun ti _ => c.length - (intOf ti).toNat)
       case atStart => exact ⟨0, Nat.zero_le _, rfl, Lib.hid (fun k hk => by omega), Lib.hid (Below.refl _ _)⟩
       case round =>
        obtain ⟨i, hi, rfl, hD, hbe⟩ := hrel
        clear k0
        have kh := (HBA3.out.ext hbe.out).cell 2 (by simp)
        simp only [List.getElem_cons_zero, List.getElem_cons_succ] at kh
        by_cases hlt : i < c.length
        ·have hi1 : (i : Int) < c.length := by omega
         have hbw := HB3.out.trans (hbe.out.mono HB3.out.size)
         have hP := HP.out.ext hbw
         have k0 := (HBA3.out.ext hbe.out).cell 0 (by simp)
         have x0 := (HBB3.out.ext hbe.out).cell 0 (by simp)
         have x1 := (HBB3.out.ext hbe.out).cell 1 (by simp)
         simp only [List.getElem_cons_zero, List.getElem_cons_succ] at k0 x0 x1
         obtain ⟨hs, hl, hl6⟩ := dual_small HVV.out HPP.out hlt
         obtain ⟨⟨y1, y2⟩, y3, y4, -⟩ := progOk_parts HVV.out
         have hcl := clmOf_len a i
         have HCL := Lib.hid (fun W (hW : Below wr.heap.size wr W) => column_calls A ca a i W (hP.ga.ext hW) (by omega) (by omega) (fun k hk => by rw [(y4 _ (nrow_mem hk)).1]; exact hlt) (fun k hk => by rw [(y4 _ (nrow_mem hk)).1]; omega))
         have HDT := Lib.hid (fun W (hW : Below wr.heap.size wr W) Y cy (hY : Ints W Y (clmOf a i)) => dot1_calls Y X cy cx (clmOf a i) xs W hl (by unfold maxLen; omega) hY ((HX.out.ext hbw).ext hW) hs)
         obtain ⟨bb2, o2, rfl, hcb⟩ := hP.gc i hlt
         have hcdb : -4611686018427387904 ≤ nth c i * d ∧ nth c i * d ≤ 4611686018427387904 := by
          have h1 := listOk_nth H6.out hlt
          have h2 := mul_bd (a := 1000) (b := 1125899906842624) (x := nth c i) (y := d) (by omega) h1 (by omega)
          omega
         obtain ⟨ci, hci⟩ : ∃ ci, nth c i = ci := ⟨_, rfl⟩
         rw [hci] at hcdb hcb
         obtain ⟨cd, hcd⟩ : ∃ cd, ci * d = cd := ⟨_, rfl⟩
         have wq1 : IntKind.i64.wrap (ci * d) = cd := by rw [IntKind.wrap_i64, ← hcd]; omega
         have HCI := Lib.hid hci; have HCD := Lib.hid hcd
         clear hci hcd hcdb
         have HBW := Lib.hid hbw
         clear hP hs hbw y4 hcl
         go_wp2_with fail
         refine wp_region_keys (w0 := wr) 15 [30, 31, 32, 33, 34, 35, 36, 37, 38, 39, 40, 41, 42, 43, 44]
          [leafS 30 (.pointer (some ⟨bp, 0, none⟩)), leafS 31 (.slice A a.length ca), leafS 32 (.int .i64 i), leaf1 33 (fun v w => ∃ Y cy, v = .slice Y (clmOf a i).length cy ∧ Ints w Y (clmOf a i)), leafS 34 (.pointer (some ⟨xp, 0, none⟩)), leafS 35 (.slice X xs.length cx), leafS 36 (.int .i64 (dotZ (clmOf a i) xs)), leafS 37 (.pointer (some ⟨bp, 2, none⟩)), leafS 38 (.slice (some ⟨bb2, o2, none⟩) c.length cc), leafS 39 (.int .i64 i), leafS 40 (.pointer (some ⟨bb2, o2 + i, none⟩)), leafS 41 (.int .i64 ci), leafS 42 (.pointer (some ⟨xp, 1, none⟩)), leafS 43 (.int .i64 d), leafS 44 (.int .i64 cd)]
          [] [none, none, none, none, none, none, none, none, none, none, none, none, none, none, none] (fun _ _ => False) (by kernel_rfl) (by kernel_rfl) (by kernel_rfl) rfl (F := ?cFr6) ?r6c1 ?r6c2 ?r6c3 ?r6c4
         case r6c1 =>
          intro x
          simp only [fullF, Act.put, List.setIfInBounds_toArray, List.set_cons_zero, List.set_cons_succ]
          rfl
         case r6c2 =>
          exact ⟨keeps_const _ _ _ _ _ _ _, keeps_const _ _ _ _ _ _ _, keeps_const _ _ _ _ _ _ _, keeps_calm (isClm_calm _ 0 _) _ _ _ _ _, keeps_const _ _ _ _ _ _ _, keeps_const _ _ _ _ _ _ _, keeps_const _ _ _ _ _ _ _, keeps_const _ _ _ _ _ _ _, keeps_const _ _ _ _ _ _ _, keeps_const _ _ _ _ _ _ _, keeps_const _ _ _ _ _ _ _, keeps_const _ _ _ _ _ _ _, keeps_const _ _ _ _ _ _ _, keeps_const _ _ _ _ _ _ _, keeps_const _ _ _ _ _ _ _, trivial⟩
         case r6c3 =>
          refine ⟨?_, ?_, ?_, ?_, ?_, ?_, ?_, ?_, ?_, ?_, ?_, ?_, ?_, ?_, ?_, trivial⟩
          all_goals
           intro xx wq HE hd K hK
           have hc := (bcell HE).1
           have k0' := (hc _ _ (cell_lt k0)).trans k0
           have x0' := (hc _ _ (cell_lt x0)).trans x0
           have x1' := (hc _ _ (cell_lt x1)).trans x1
           have kh' := (hc _ _ (cell_lt kh)).trans kh
           have hcb' := (hc _ _ (cell_lt hcb)).trans hcb
           try have e0 : xx 30 = _ := hd 0 _ (by decide) rfl
           try have e1 : xx 31 = _ := hd 1 _ (by decide) rfl
           try have e2 : xx 32 = _ := hd 2 _ (by decide) rfl
           try have g3 := hd 3 _ (by decide) rfl
           try have e4 : xx 34 = _ := hd 4 _ (by decide) rfl
           try have e5 : xx 35 = _ := hd 5 _ (by decide) rfl
           try have e6 : xx 36 = _ := hd 6 _ (by decide) rfl
           try have e7 : xx 37 = _ := hd 7 _ (by decide) rfl
           try have e8 : xx 38 = _ := hd 8 _ (by decide) rfl
           try have e9 : xx 39 = _ := hd 9 _ (by decide) rfl
           try have e10 : xx 40 = _ := hd 10 _ (by decide) rfl
           try have e11 : xx 41 = _ := hd 11 _ (by decide) rfl
           try have e12 : xx 42 = _ := hd 12 _ (by decide) rfl
           try have e13 : xx 43 = _ := hd 13 _ (by decide) rfl
           try have e14 : xx 44 = _ := hd 14 _ (by decide) rfl
           have HE := Lib.hid HE
           have HC := Lib.hid hc
           clear hd hc
           all_goals go_simp
           try (refine hK _ _ _ (mv_const _ rfl) ?_; dsimp only [Act.put]; first | done | rfl | (simp [*]; done))
          ·refine (HCL.out wq HE.out).mono ?_
           rintro e w2 ⟨Y, cy, rfl, -, -, hY, hb⟩
           exact hK _ _ _ (mv_plain hb ⟨Y, cy, rfl, hY⟩ rfl) (by first | (dsimp only [Act.put]; done) | (dsimp only [Act.put]; first | rfl | (simp [*]; done) | (simp [*, ptr]; done)))
          ·obtain ⟨Y, cy, h33, hY⟩ := g3
           rw [h33]
           refine (HDT.out wq HE.out Y cy hY).mono ?_
           rintro e w2 ⟨rfl, kq, hkq⟩
           exact hK _ _ _ (mv_plain (by rw [hkq]; exact drewN_below _ _) rfl rfl) (by first | (dsimp only [Act.put]; done) | (dsimp only [Act.put]; first | rfl | (simp [*]; done) | (simp [*, ptr]; done)))
         case r6c4 =>
          intro xx wz hE hG hA
          have e0 : xx 30 = _ := hG 0 _ rfl
          have e1 : xx 31 = _ := hG 1 _ rfl
          have e2 : xx 32 = _ := hG 2 _ rfl
          have g3 := hG 3 _ rfl
          have e4 : xx 34 = _ := hG 4 _ rfl
          have e5 : xx 35 = _ := hG 5 _ rfl
          have e6 : xx 36 = _ := hG 6 _ rfl
          have e7 : xx 37 = _ := hG 7 _ rfl
          have e8 : xx 38 = _ := hG 8 _ rfl
          have e9 : xx 39 = _ := hG 9 _ rfl
          have e10 : xx 40 = _ := hG 10 _ rfl
          have e11 : xx 41 = _ := hG 11 _ rfl
          have e12 : xx 42 = _ := hG 12 _ rfl
          have e13 : xx 43 = _ := hG 13 _ rfl
          have e14 : xx 44 = _ := hG 14 _ rfl
          have HE := Lib.hid (hbe.out.trans (hE.mono hbe.out.size))
          clear hG hA hE
          (refine tail_one (i := 15) (by kernel_rfl) rfl ?_; intro K hK; go_simp; refine hK _ _ ?_; clear hK)
          refine wpAny_done (by kernel_rfl) ?_ _
          obtain ⟨dz, hdz⟩ : ∃ dz, dotZ (clmOf a i) xs = dz := ⟨_, rfl⟩
          rw [hdz]
          have HDZ := Lib.hid hdz
          clear hdz
          by_cases hlz : cd < dz
          ·have hd2 : decide (cd < dz) = true := decide_eq_true hlz
           have HLZ := Lib.hid hlz
           go_wp2
           go_ret
           refine ⟨?_, HB3.out.trans (HE.out.mono HB3.out.size)⟩
           unfold boundsS
           rw [all_range_false (i := i) (by omega) (decide_eq_false (by rw [HCI.out, HCD.out, HDZ.out]; have := HLZ.out; omega)), Bool.and_false]; rfl
          ·have hd2 : decide (cd < dz) = false := decide_eq_false hlz
           have HN2 : Hid (∀ k, k < i + 1 → dotZ (clmOf a k) xs ≤ nth c k * d) := Lib.hid (fun k hk => by
            by_cases e : k = i
            ·subst e; rw [HCI.out, HCD.out, HDZ.out]; omega
            ·exact hD.out k (by omega))
           clear hD
           go_wp2
           go_roundw
           case rel => exact ⟨i + 1, by omega, by go_num, HN2, HE⟩
           case measure => simp [intOf]; omega
        ·obtain rfl : i = c.length := by omega
         go_wp2
         go_ret
         exact ⟨by unfold boundsS; rw [HVV.out, HPP.out, HNN.out, all_range_true fun i hi => decide_eq_true (hD.out i hi)]; rfl, HB3.out.trans (hbe.out.mono HB3.out.size)⟩
end Go.Proofs.YtkljafmdbajfeaaGreatDoor
