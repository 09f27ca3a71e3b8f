/- tinplateref01.Proper, atLeast0, dot and Feasible: what they answer. -/
import Derived.Test.YtkljafmdbajfeaaGreatDoorDuA25
import Derived.Test.YtkljafmdbajfeaaGreatDoorDuA42
namespace Go.Proofs.YtkljafmdbajfeaaGreatDoor
open Go.RowKit
set_option linter.unusedVariables false
set_option linter.unusedSimpArgs false
set_option maxHeartbeats 1000000 in
theorem proper1_calls (A : Option Addr) (c : Nat) (xs : List Int) (d : Int) (n : Nat) (w : World) (hm : xs.length ≤ maxLen) (hn : n ≤ maxLen) (hA : Ints w A xs) :
  Calls Tryz.prog 75 #[.agg #[.slice A xs.length c, .int .i64 d], .int .i64 n] w fun e w' => e = .returned (.bool (pointOk n xs d)) ∧ Below w.heap.size w w' := by
 have hn' := hn; unfold maxLen at hn'
 have hm' := hm; unfold maxLen at hm'
 have hb0 : ∀ o, Below w.heap.size w (w.alloc o) := fun o => (Below.refl _ _).alloc (Nat.le_refl _) _
 by_cases h1 : xs.length = n
 ·have d1 : ((xs.length : Int) != (n : Int)) = false := by simp [h1]
  have H1 := Lib.hid h1; clear h1
  by_cases h2 : d < 1
  ·have d2 : decide (d < 1) = true := decide_eq_true h2
   have H2 := Lib.hid h2; clear h2
   go_enter Tryz.func75, Tryz.ntmps75
   go_wp2
   go_ret
   exact ⟨by have := H2.out; simp [pointOk]; omega, hb0 _⟩
  ·have d2 : decide (d < 1) = false := decide_eq_false h2
   have H2 := Lib.hid h2; clear h2
   by_cases h3 : 1125899906842624 < d
   ·have d3 : decide (1125899906842624 < d) = true := decide_eq_true h3
    have H3 := Lib.hid h3; clear h3
    go_enter Tryz.func75, Tryz.ntmps75
    go_wp2
    go_ret
    exact ⟨by have := H3.out; simp [pointOk]; omega, hb0 _⟩
   ·have d3 : decide (1125899906842624 < d) = false := decide_eq_false h3
    have HE : Hid (pointOk n xs d = listOk 1125899906842624 xs) := Lib.hid (by have h1 := H1.out; have h2 := H2.out; unfold pointOk; rw [decide_eq_true h1, decide_eq_true (show 1 ≤ d by omega), decide_eq_true (show d ≤ 1125899906842624 by omega)]; rfl)
    clear h3
    obtain ⟨wa, hwa⟩ : ∃ wa, w.alloc (.cells #[.slice A xs.length c, .int .i64 d] 29 (0, 0)) = wa := ⟨_, rfl⟩
    have ba : Blk wa w.heap.size [.slice A xs.length c, .int .i64 d] 29 := by rw [← hwa]; exact Blk.new _ _ _
    have ea : Below w.heap.size w wa := by rw [← hwa]; exact hb0 _
    have hA2 := hA.ext ea
    have x0 := ba.cell 0 (by simp)
    have x1 := ba.cell 1 (by simp)
    simp only [List.getElem_cons_zero, List.getElem_cons_succ] at x0 x1
    have hXE := x0
    rw [← hwa] at x0 x1
    have HWA := Lib.hid hwa; have HEA := Lib.hid ea; have HXE := Lib.hid hXE
    clear ba ea hwa hA hXE
    go_enter Tryz.func75, Tryz.ntmps75
    go_wp2_with fail
    rw [HWA.out]
    clear x0 x1
    have x0 := HXE.out
    go_loop [5] (fun i => ∃ k : Nat, k ≤ n ∧ i = .int .i64 k ∧ ∀ j, j < k → inB 1125899906842624 (nth xs j) = true) (fun i => n - (intOf i).toNat)
    case atStart => exact ⟨0, Nat.zero_le _, rfl, fun j hj => by omega⟩
    case round =>
     obtain ⟨k, hk, rfl, hall⟩ := hrel
     have HA := Lib.hid hall; clear hall
     by_cases hlt : k < n
     ·have hlx : k < xs.length := by rw [H1.out]; exact hlt
      obtain ⟨b, o, rfl, g⟩ := hA2 k hlx
      have hlx2 : (k : Int) < (xs.length : Int) := by omega
      cases hb : inB 1125899906842624 (nth xs k)
      ·have HB := Lib.hid hb
       go_wp2_with (go_at_call 127; refine (refWithin_calls _ 1125899906842624 _ (by omega) (by omega)).mono ?_; rw [HB.out]; rintro e w' ⟨rfl, rfl⟩)
       go_ret
       exact ⟨by rw [HE.out]; unfold listOk; rw [all_take_false hlx HB.out]; rfl, HEA.out⟩
      ·have HB := Lib.hid hb
       go_wp2_with (go_at_call 127; refine (refWithin_calls _ 1125899906842624 _ (by omega) (by omega)).mono ?_; rw [HB.out]; rintro e w' ⟨rfl, rfl⟩)
       go_round
       case rel => exact ⟨k + 1, by omega, by go_num, fun j hj => if e : j = k then by rw [e]; exact HB.out else HA.out j (by omega)⟩
       case measure => simp [intOf]; omega
     ·obtain rfl : k = n := by omega
      go_wp2
      go_ret
      exact ⟨by rw [HE.out]; unfold listOk; rw [all_of_nth (by rw [H1.out]; exact HA.out)]; rfl, HEA.out⟩
 ·have d1 : ((xs.length : Int) != (n : Int)) = true := by simp; omega
  have H1 := Lib.hid h1; clear h1
  go_enter Tryz.func75, Tryz.ntmps75
  go_wp2
  go_ret
  exact ⟨by simp [pointOk, H1.out], hb0 _⟩
set_option maxHeartbeats 400000 in
theorem nonneg1_calls (A : Option Addr) (c : Nat) (xs : List Int) (w : World) (hm : xs.length ≤ maxLen) (hA : Ints w A xs) :
  Calls Tryz.prog 76 #[.slice A xs.length c] w fun e w' => e = .returned (.bool (nnB xs)) ∧ w' = w := by
 unfold maxLen at hm
 go_enter Tryz.func76, Tryz.ntmps76
 go_wp2
 go_loop [3] (fun i => ∃ k : Nat, k ≤ xs.length ∧ i = .int .i64 k ∧ ∀ j, j < k → 0 ≤ nth xs j) (fun i => xs.length - (intOf i).toNat)
 case atStart => exact ⟨0, Nat.zero_le _, rfl, fun j hj => by omega⟩
 case round =>
  obtain ⟨k, hk, rfl, hall⟩ := hrel
  have HA := Lib.hid hall; clear hall
  by_cases hlt : k < xs.length
  ·obtain ⟨b, o, rfl, g⟩ := hA k hlt
   by_cases hn : nth xs k < 0
   ·have hd : decide (nth xs k < 0) = true := decide_eq_true hn
    have HN := Lib.hid hn; clear hn
    go_wp2
    go_ret
    exact ⟨by unfold nnB; rw [all_take_false hlt (decide_eq_false (by have := HN.out; omega))]; rfl, rfl⟩
   ·have hd : decide (nth xs k < 0) = false := decide_eq_false hn
    have HN := Lib.hid hn; clear hn
    go_wp2
    go_round
    case rel => exact ⟨k + 1, by omega, by go_num, fun j hj => if e : j = k then by rw [e]; have := HN.out; omega else HA.out j (by omega)⟩
    case measure => simp [intOf]; omega
  ·obtain rfl : k = xs.length := by omega
   go_wp2
   go_ret
   exact ⟨by unfold nnB; rw [all_of_nth fun i hi => decide_eq_true (HA.out i hi)]; rfl, rfl⟩
set_option maxHeartbeats 400000 in
theorem dot1_calls (A B : Option Addr) (ca cb : Nat) (xs ys : List Int) (w : World) (hl : xs.length ≤ ys.length) (hm : xs.length ≤ maxLen) (hA : Ints w A xs) (hB : Ints w B ys) (hs : Small xs ys) :
  Calls Tryz.prog 77 #[.slice A xs.length ca, .slice B ys.length cb] w fun e w' => e = .returned (.int .i64 (dotZ xs ys)) ∧ ∃ n, w' = w.drewN n := by
 unfold maxLen at hm
 go_enter Tryz.func77, Tryz.ntmps77
 go_wp2
 go_loopw [5, 6] (fun s i wr => ∃ (k n : Nat), k ≤ xs.length ∧ i = .int .i64 k ∧ s = .int .i64 (dotN xs ys k) ∧ wr = w.drewN n) (fun _ i _ => xs.length - (intOf i).toNat)
 case atStart => exact ⟨0, 0, Nat.zero_le _, rfl, rfl, rfl⟩
 case round =>
  obtain ⟨k, n, hk, rfl, rfl, rfl⟩ := hrel
  by_cases hlt : k < xs.length
  ·obtain ⟨b1, o1, rfl, g1⟩ := hA k hlt
   obtain ⟨b2, o2, rfl, g2⟩ := hB k (by omega)
   obtain ⟨r1, r2, r3, r4⟩ := hs.round hlt
   have hlt2 : k < ys.length := by omega
   go_wp2
   go_quiet (fail)
   go_wp2
   go_roundw
   case rel => exact ⟨k + 1, _, by omega, by go_num, rfl, rfl⟩
   case measure => simp [intOf]; omega
  ·obtain rfl : k = xs.length := by omega
   go_wp2
   go_ret
   exact ⟨rfl, _, rfl⟩
set_option maxRecDepth 100000 in
set_option maxHeartbeats 4000000 in
theorem feas1_calls (A B C X : Option Addr) (ca cb cc cx : Nat) (a : List (List Int)) (b c xs : List Int) (d : Int) (w : World) (h : Prog3 w A B C a b c) (hX : Ints w X xs) (hm : xs.length ≤ maxLen) :
  Calls Tryz.prog 24 #[.agg #[.slice A a.length ca, .slice B b.length cb, .slice C c.length cc], .agg #[.slice X xs.length cx, .int .i64 d]] w fun e w' => e = .returned (.bool (feasS a b c xs d)) ∧ Below w.heap.size w w' := by
 obtain ⟨wa, hwa⟩ : ∃ wa, w.alloc (.cells #[.slice A a.length ca, .slice B b.length cb, .slice C c.length cc] 25 (0, 0)) = wa := ⟨_, rfl⟩
 obtain ⟨wb, hwb⟩ : ∃ wb, wa.alloc (.cells #[.slice X xs.length cx, .int .i64 d] 29 (0, 0)) = wb := ⟨_, rfl⟩
 have hlc := h.lc
 have sa : wa.heap.size = w.heap.size + 1 := by rw [← hwa]; simp
 have ba : Blk wa w.heap.size [.slice A a.length ca, .slice B b.length cb, .slice C c.length cc] 25 := by rw [← hwa]; exact Blk.new _ _ _
 have bb : Blk wb (w.heap.size + 1) [.slice X xs.length cx, .int .i64 d] 29 := by rw [← hwb, ← sa]; exact Blk.new _ _ _
 have ea : Below w.heap.size w wa := by rw [← hwa]; exact (Below.refl _ _).alloc (Nat.le_refl _) _
 have eb : Below wa.heap.size wa wb := by rw [← hwb]; exact (Below.refl _ _).alloc (Nat.le_refl _) _
 have e2 : Below w.heap.size w wb := ea.trans (eb.mono (by omega))
 have HBA := Lib.hid (ba.ext eb); have HBB := Lib.hid bb; have HE2 := Lib.hid e2
 have HP := Lib.hid h; have HX := Lib.hid hX
 have HV := Lib.hid (refValid_calls A B C ca cb cc a b c wb (h.ext e2))
 have p0 := (ba.ext eb).cell 0 (by simp)
 have p1 := (ba.ext eb).cell 1 (by simp)
 have p2 := (ba.ext eb).cell 2 (by simp)
 simp only [List.getElem_cons_zero, List.getElem_cons_succ] at p0 p1 p2
 rw [← hwb, ← hwa] at p0 p1 p2
 have HWA := Lib.hid hwa; have HWB := Lib.hid hwb
 clear ba bb ea eb e2 h hX sa hwa hwb
 go_enter Tryz.func24, Tryz.ntmps24
 go_wp2_with fail
 rw [HWA.out, HWB.out]
 clear p0 p1 p2
 obtain ⟨bp, hbp⟩ : ∃ bp, w.heap.size = bp := ⟨_, rfl⟩
 obtain ⟨xp, hxp⟩ : ∃ xp, w.heap.size + 1 = xp := ⟨_, rfl⟩
 rw [hbp] at HBA
 rw [hxp] at HBB
 rw [hxp, hbp]
 have HBP := Lib.hid hbp
 clear hbp hxp
 refine HV.out.mono ?_; rintro e w1 ⟨rfl, hb1⟩
 have HB1 := Lib.hid (HE2.out.trans (hb1.mono HE2.out.size)); have HBA1 := Lib.hid (HBA.out.ext hb1); have HBB1 := Lib.hid (HBB.out.ext hb1)
 clear hb1 HV HBA HBB HE2
 cases hv : progOk a b c with
 | false =>
   have HVV := Lib.hid hv
   clear hv
   go_wp2
   go_ret
   exact ⟨by unfold feasS; rw [HVV.out]; rfl, HB1.out⟩
 | true =>
   have HVV := Lib.hid hv
   clear hv
   have k0 := HBA1.out.cell 0 (by simp)
   have k2 := HBA1.out.cell 2 (by simp)
   have x0 := HBB1.out.cell 0 (by simp)
   have x1 := HBB1.out.cell 1 (by simp)
   simp only [List.getElem_cons_zero, List.getElem_cons_succ] at k0 k2 x0 x1
   have HPR := Lib.hid (proper1_calls X cx xs d c.length w1 hm hlc (HX.out.ext HB1.out))
   go_wp2_with fail
   refine HPR.out.mono ?_; rintro e w2 ⟨rfl, hb2⟩
   have HB2 := Lib.hid (HB1.out.trans (hb2.mono HB1.out.size)); have HBA2 := Lib.hid (HBA1.out.ext hb2); have HBB2 := Lib.hid (HBB1.out.ext hb2)
   clear hb2 HPR HBA1 HBB1 HB1 k0 k2 x0 x1
   cases hp : pointOk c.length xs d with
   | false =>
     have HPP := Lib.hid hp
     clear hp
     go_wp2
     go_ret
     exact ⟨by unfold feasS; rw [HVV.out, HPP.out]; rfl, HB2.out⟩
   | true =>
     have HPP := Lib.hid hp
     clear hp
     have k0 := HBA2.out.cell 0 (by simp)
     have x0 := HBB2.out.cell 0 (by simp)
     simp only [List.getElem_cons_zero] at k0 x0
     have HCF := Lib.hid (nonneg1_calls X cx xs w2 hm (HX.out.ext HB2.out))
     go_wp2_with fail
     refine HCF.out.mono ?_; rintro e w3 ⟨rfl, hw3⟩
     have hb3 : Below w2.heap.size w2 w3 := by rw [hw3]; exact Below.refl _ _
     clear hw3
     have HB3 := Lib.hid (HB2.out.trans (hb3.mono HB2.out.size)); have HBA3 := Lib.hid (HBA2.out.ext hb3); have HBB3 := Lib.hid (HBB2.out.ext hb3)
     clear hb3 HCF HBA2 HBB2 HB2 k0 x0
     cases hn : nnB xs with
     | false =>
       have HNN := Lib.hid hn
       clear hn
       go_wp2
       go_ret
       exact ⟨by unfold feasS; rw [HVV.out, HPP.out, HNN.out]; rfl, HB3.out⟩
     | true =>
       have HNN := Lib.hid hn
       clear hn
       have k0 := HBA3.out.cell 0 (by simp)
       simp only [List.getElem_cons_zero] at k0
       obtain ⟨⟨q1, q2⟩, q3, q4, q5, q6, q7⟩ := progOk_parts HVV.out
       obtain ⟨p1, p2, p3, p4⟩ := pointOk_parts HPP.out
       have H5 := Lib.hid q5; have H6 := Lib.hid q6; have H1 := Lib.hid p1
       clear q4 q5 q6 q7 p1 p4
       go_wp2_with fail
       go_loopw [5] (fun ti wr => ∃ (i : Nat), i ≤ a.length ∧ ti = .int .i64 i ∧ Hid (∀ k, k < i → nth b k * d ≤ dotZ (nrow a k) xs) ∧ Hid (Below w3.heap.size w3 wr)) (fun ti _ => a.length - (intOf ti).toNat)
       case atStart => exact ⟨0, Nat.zero_le _, rfl, Lib.hid (fun k hk => by omega), Lib.hid (Below.refl _ _)⟩
       case round =>
        obtain ⟨i, hi, rfl, hD, hbe⟩ := hrel
        clear k0
        have k0 := (HBA3.out.ext hbe.out).cell 0 (by simp)
        simp only [List.getElem_cons_zero] at k0
        by_cases hlt : i < a.length
        ·have hi1 : (i : Int) < a.length := by omega
         have hbw := HB3.out.trans (hbe.out.mono HB3.out.size)
         have hP := HP.out.ext hbw
         obtain ⟨bb, o, R, cR, rfl, hrc, hcR, hints⟩ := hP.ga i hlt
         obtain ⟨bb2, o2, rfl, hcb⟩ := hP.gb i (by have := H5.out; omega)
         have k1 := (HBA3.out.ext hbe.out).cell 1 (by simp)
         have x0 := (HBB3.out.ext hbe.out).cell 0 (by simp)
         have x1 := (HBB3.out.ext hbe.out).cell 1 (by simp)
         simp only [List.getElem_cons_zero, List.getElem_cons_succ] at k1 x0 x1
         obtain ⟨hs, hl, -⟩ := point_small HVV.out HPP.out hlt
         have HDT := Lib.hid (fun W (hW : Below wr.heap.size wr W) => dot1_calls R X cR cx (nrow a i) xs W hl (by omega) (hints.ext hW) ((HX.out.ext hbw).ext hW) hs)
         have hbl : (i : Int) < b.length := by have := H5.out; omega
         have hbd : -4611686018427387904 ≤ nth b i * d ∧ nth b i * d ≤ 4611686018427387904 := by
          have h1 := listOk_nth H6.out (i := i) (by have := H5.out; omega)
          have h2 := mul_bd (a := 1000) (b := 1125899906842624) (x := nth b i) (y := d) (by omega) h1 (by omega)
          omega
         obtain ⟨bi, hbi⟩ : ∃ bi, nth b i = bi := ⟨_, rfl⟩
         rw [hbi] at hbd hcb
         obtain ⟨bd, hbdd⟩ : ∃ bd, bi * d = bd := ⟨_, rfl⟩
         have wq1 : IntKind.i64.wrap (bi * d) = bd := by rw [IntKind.wrap_i64, ← hbdd]; omega
         have HBI := Lib.hid hbi; have HBD := Lib.hid hbdd
         clear hbi hbdd
         have HBW := Lib.hid hbw
         clear hP hcR hints hs hbw hbd
         go_wp2_with fail
         refine wp_region_keys (w0 := wr) 16 [30, 31, 32, 33, 34, 35, 36, 37, 38, 39, 40, 41, 42, 43, 44, 45]
          [leafS 30 (.pointer (some ⟨bp, 0, none⟩)), leafS 31 (.slice (some ⟨bb, o, none⟩) a.length ca), leafS 32 (.int .i64 i), leafS 33 (.pointer (some ⟨bb, o + i, none⟩)), leafS 34 (.slice R (nrow a i).length cR), leafS 35 (.pointer (some ⟨xp, 0, none⟩)), leafS 36 (.slice X xs.length cx), leafS 37 (.int .i64 (dotZ (nrow a i) xs)), leafS 38 (.pointer (some ⟨bp, 1, none⟩)), leafS 39 (.slice (some ⟨bb2, o2, none⟩) b.length cb), leafS 40 (.int .i64 i), leafS 41 (.pointer (some ⟨bb2, o2 + i, none⟩)), leafS 42 (.int .i64 bi), leafS 43 (.pointer (some ⟨xp, 1, none⟩)), leafS 44 (.int .i64 d), leafS 45 (.int .i64 bd)]
          [] [none, none, none, none, none, none, none, none, none, none, none, none, none, none, none, none] (fun _ _ => False) (by kernel_rfl) (by kernel_rfl) (by kernel_rfl) rfl (F := ?cFr6) ?r6c1 ?r6c2 ?r6c3 ?r6c4
         case r6c1 =>
          intro x
          simp only [fullF, Act.put, List.setIfInBounds_toArray, List.set_cons_zero, List.set_cons_succ]
          rfl
         case r6c2 =>
          exact ⟨keeps_const _ _ _ _ _ _ _, keeps_const _ _ _ _ _ _ _, keeps_const _ _ _ _ _ _ _, keeps_const _ _ _ _ _ _ _, keeps_const _ _ _ _ _ _ _, keeps_const _ _ _ _ _ _ _, keeps_const _ _ _ _ _ _ _, keeps_const _ _ _ _ _ _ _, keeps_const _ _ _ _ _ _ _, keeps_const _ _ _ _ _ _ _, keeps_const _ _ _ _ _ _ _, keeps_const _ _ _ _ _ _ _, keeps_const _ _ _ _ _ _ _, keeps_const _ _ _ _ _ _ _, keeps_const _ _ _ _ _ _ _, keeps_const _ _ _ _ _ _ _, trivial⟩
         case r6c3 =>
          refine ⟨?_, ?_, ?_, ?_, ?_, ?_, ?_, ?_, ?_, ?_, ?_, ?_, ?_, ?_, ?_, ?_, trivial⟩
          all_goals
           intro xx wq HE hd K hK
           have hc := (bcell HE).1
           have k0' := (hc _ _ (cell_lt k0)).trans k0
           have k1' := (hc _ _ (cell_lt k1)).trans k1
           have x0' := (hc _ _ (cell_lt x0)).trans x0
           have x1' := (hc _ _ (cell_lt x1)).trans x1
           have hcb' := (hc _ _ (cell_lt hcb)).trans hcb
           have hrc' := (hc _ _ (cell_lt hrc)).trans hrc
           try have e0 : xx 30 = _ := hd 0 _ (by decide) rfl
           try have e1 : xx 31 = _ := hd 1 _ (by decide) rfl
           try have e2 : xx 32 = _ := hd 2 _ (by decide) rfl
           try have e3 : xx 33 = _ := hd 3 _ (by decide) rfl
           try have e4 : xx 34 = _ := hd 4 _ (by decide) rfl
           try have e5 : xx 35 = _ := hd 5 _ (by decide) rfl
           try have e6 : xx 36 = _ := hd 6 _ (by decide) rfl
           try have e7 : xx 37 = _ := hd 7 _ (by decide) rfl
           try have e8 : xx 38 = _ := hd 8 _ (by decide) rfl
           try have e9 : xx 39 = _ := hd 9 _ (by decide) rfl
           try have e10 : xx 40 = _ := hd 10 _ (by decide) rfl
           try have e11 : xx 41 = _ := hd 11 _ (by decide) rfl
           try have e12 : xx 42 = _ := hd 12 _ (by decide) rfl
           try have e13 : xx 43 = _ := hd 13 _ (by decide) rfl
           try have e14 : xx 44 = _ := hd 14 _ (by decide) rfl
           try have e15 : xx 45 = _ := hd 15 _ (by decide) rfl
           have HE := Lib.hid HE
           have HC := Lib.hid hc
           clear hd hc
           all_goals go_simp
           try (refine hK _ _ _ (mv_const _ rfl) ?_; dsimp only [Act.put]; first | done | rfl | (simp [*]; done))
          ·refine (HDT.out wq HE.out).mono ?_
           rintro e w2 ⟨rfl, kq, hkq⟩
           exact hK _ _ _ (mv_plain (by rw [hkq]; exact drewN_below _ _) rfl rfl) (by first | (dsimp only [Act.put]; done) | (dsimp only [Act.put]; first | rfl | (simp [*]; done) | (simp [*, ptr]; done)))
         case r6c4 =>
          intro xx wz hE hG hA
          have e0 : xx 30 = _ := hG 0 _ rfl
          have e1 : xx 31 = _ := hG 1 _ rfl
          have e2 : xx 32 = _ := hG 2 _ rfl
          have e3 : xx 33 = _ := hG 3 _ rfl
          have e4 : xx 34 = _ := hG 4 _ rfl
          have e5 : xx 35 = _ := hG 5 _ rfl
          have e6 : xx 36 = _ := hG 6 _ rfl
          have e7 : xx 37 = _ := hG 7 _ rfl
          have e8 : xx 38 = _ := hG 8 _ rfl
          have e9 : xx 39 = _ := hG 9 _ rfl
          have e10 : xx 40 = _ := hG 10 _ rfl
          have e11 : xx 41 = _ := hG 11 _ rfl
          have e12 : xx 42 = _ := hG 12 _ rfl
          have e13 : xx 43 = _ := hG 13 _ rfl
          have e14 : xx 44 = _ := hG 14 _ rfl
          have e15 : xx 45 = _ := hG 15 _ rfl
          have HE := Lib.hid (hbe.out.trans (hE.mono hbe.out.size))
          clear hG hA hE
          (refine tail_one (i := 16) (by kernel_rfl) rfl ?_; intro K hK; go_simp; refine hK _ _ ?_; clear hK)
          refine wpAny_done (by kernel_rfl) ?_ _
          obtain ⟨dz, hdz⟩ : ∃ dz, dotZ (nrow a i) xs = dz := ⟨_, rfl⟩
          rw [hdz]
          have HDZ := Lib.hid hdz
          clear hdz
          by_cases hlz : dz < bd
          ·have hd2 : decide (dz < bd) = true := decide_eq_true hlz
           have HLZ := Lib.hid hlz
           go_wp2
           go_ret
           refine ⟨?_, HB3.out.trans (HE.out.mono HB3.out.size)⟩
           unfold feasS
           rw [all_range_false (i := i) (by omega) (decide_eq_false (by rw [HBI.out, HBD.out, HDZ.out]; have := HLZ.out; omega)), Bool.and_false]; rfl
          ·have hd2 : decide (dz < bd) = false := decide_eq_false hlz
           have HN2 : Hid (∀ k, k < i + 1 → nth b k * d ≤ dotZ (nrow a k) xs) := Lib.hid (fun k hk => by
            by_cases e : k = i
            ·subst e; rw [HBI.out, HBD.out, HDZ.out]; omega
            ·exact hD.out k (by omega))
           clear hD
           go_wp2
           go_roundw
           case rel => exact ⟨i + 1, by omega, by go_num, HN2, HE⟩
           case measure => simp [intOf]; omega
        ·obtain rfl : i = a.length := by omega
         go_wp2
         go_ret
         exact ⟨by unfold feasS; rw [HVV.out, HPP.out, HNN.out, all_range_true fun i hi => decide_eq_true (hD.out i hi)]; rfl, HB3.out.trans (hbe.out.mono HB3.out.size)⟩
end Go.Proofs.YtkljafmdbajfeaaGreatDoor

/- tinplateref01.column: what it answers. -/
namespace Go.Proofs.YtkljafmdbajfeaaGreatDoor
open Go.RowKit Go.ChangeMaps
set_option linter.unusedVariables false
set_option linter.unusedSimpArgs false
def clmTo (a : List (List Int)) (j i : Nat) : List Int := (List.range i).map fun k => nth (nrow a k) j
def clmOf (a : List (List Int)) (j : Nat) : List Int := clmTo a j a.length
theorem clmTo_len (a : List (List Int)) (j i : Nat) : (clmTo a j i).length = i := by unfold clmTo; simp
theorem clmTo_succ (a : List (List Int)) (j i : Nat) : clmTo a j (i + 1) = clmTo a j i ++ [nth (nrow a i) j] := by unfold clmTo; rw [List.range_succ, List.map_append]; rfl
theorem clmOf_nth (a : List (List Int)) (j k : Nat) (h : k < a.length) : nth (clmOf a j) k = nth (nrow a k) j := by unfold clmOf clmTo nth; simp [h]
set_option maxRecDepth 100000 in
set_option maxHeartbeats 2000000 in
theorem column_calls (A : Option Addr) (ca : Nat) (a : List (List Int)) (j : Nat) (w : World) (hA : Grid w A a) (hl : a.length ≤ 1000) (hj : j ≤ 1000) (hr : ∀ k, k < a.length → j < (nrow a k).length) (hm : ∀ k, k < a.length → (nrow a k).length ≤ 1000) :
  Calls Tryz.prog 78 #[.slice A a.length ca, .int .i64 j] w fun e w' => ∃ X c, e = .returned (.slice X (clmOf a j).length c) ∧ (clmOf a j).length ≤ c ∧ c ≤ maxLen ∧ Ints w' X (clmOf a j) ∧ Below w.heap.size w w' := by
 obtain ⟨i0, hi0, hz0, hz1, hz2⟩ := info_parts infoInt
 have HG := Lib.hid hA; have HR := Lib.hid hr; have HM := Lib.hid hm
 clear hA hr hm
 go_enter Tryz.func78, Tryz.ntmps78
 go_wp2
 go_loopw [5, 6] (fun tv ti wr => ∃ (i : Nat), i ≤ a.length ∧ ti = .int .i64 i ∧ Hid (wr.ownsRow w.heap.size 3 1 tv i ((clmTo a j i).map (Value.int .i64))) ∧ Hid (Below w.heap.size w wr)) (fun _ ti _ => a.length - (intOf ti).toNat)
 case atStart => exact ⟨0, Nat.zero_le _, rfl, Lib.hid (World.ownsRow_nil _ _ _ _), Lib.hid (Below.refl _ _)⟩
 case round =>
  obtain ⟨i, hi, rfl, hown, hbe⟩ := hrel
  by_cases hlt : i < a.length
  ·have hi1 : (i : Int) < a.length := by omega
   obtain ⟨bb, o, R, cR, rfl, hrc, -, hints⟩ := (HG.out.ext hbe.out) i hlt
   have hjr := HR.out i hlt
   have hmr := HM.out i hlt
   obtain ⟨b2, o2, rfl, g2⟩ := hints j hjr
   have hjr2 : (j : Int) < (nrow a i).length := by omega
   obtain ⟨A3, c3, rfl, hc3, hc4⟩ := own_size hown.out
   obtain ⟨x, hx⟩ : ∃ x, nth (nrow a i) j = x := ⟨_, rfl⟩
   rw [hx] at g2
   have hA : Below wr.heap.size wr (wr.alloc (.cells #[.int .i64 x] 3 (0, 0))) := (Below.refl _ _).alloc (Nat.le_refl _) _
   have hB := Blk.new wr [.int .i64 x] 3
   have hown1 := own_ext hown.out hA
   have hbw := hbe.out.size
   have HO1 := Lib.hid hown1; have HBL := Lib.hid hB; have HA := Lib.hid hA; have HX := Lib.hid hx
   clear hown1 hB hA hints hx
   go_wp2_with (at_builtin; refine wpList_append_own _ rfl _ _ 23 rfl w.heap.size 3 i0 (.int .i64 0) 1 8 Tryz.underlying23 hi0 hz0 hz1 hz2 rfl (by decide) _ _ _ rfl HO1.out ⟨wr.heap.size, 0, none⟩ 1 1 [.int .i64 x] rfl ?qc1 ?qc2 ?qc3 ?qc4 ?qc5 ?qc6 ?_)
   case qc1 => rfl
   case qc2 =>
    intro j u hj
    cases j with
    | zero => simp at hj; subst hj; exact HBL.out.cell 0 (by simp)
    | succ j => simp at hj
   case qc3 => intro u hu; simp at hu; subst hu; rfl
   case qc4 => unfold maxLen; omega
   case qc5 => omega
   case qc6 => simp; omega
   intro v' w1 hown' hgrow hnil
   have hb1 := (hbe.out.trans (HA.out.mono hbw)).grown hgrow (by simp; omega) (own_block HO1.out)
   have hown2 : w1.ownsRow w.heap.size 3 1 v' (i + 1) ((clmTo a j (i + 1)).map (Value.int .i64)) := by
    rw [clmTo_succ, HX.out]
    simpa using hown'
   have HO2 := Lib.hid hown2; have HB1 := Lib.hid hb1
   clear hown' hgrow hnil hown2 hb1 HO1
   go_wp2
   go_roundw
   case rel => exact ⟨i + 1, by omega, by go_num, HO2, HB1⟩
   case measure => simp [intOf]; omega
  ·obtain rfl : i = a.length := by omega
   have hlen := clmTo_len a j a.length
   have hown2 := hown.out
   rw [← hlen] at hown2
   rw [hlen] at hown2
   obtain ⟨A2, c, rfl, h1, h2, h3⟩ := own_ints hown2
   have HH := Lib.hid h1; have H3 := Lib.hid h3
   clear h1 h3 hown hown2
   go_wp2
   go_ret
   exact ⟨A2, c, rfl, HH.out, h2, H3.out, hbe.out⟩
end Go.Proofs.YtkljafmdbajfeaaGreatDoor
