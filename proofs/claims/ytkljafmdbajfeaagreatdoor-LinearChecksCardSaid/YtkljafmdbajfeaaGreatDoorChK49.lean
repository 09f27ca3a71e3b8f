/- The row LinearChecks. -/
import Derived.Test.YtkljafmdbajfeaaGreatDoorChK48
namespace Go.Proofs.YtkljafmdbajfeaaGreatDoor
open Go.RowKit
set_option linter.unusedVariables false
set_option linter.unusedSimpArgs false
def valS (a : List (List Int)) (b c xs : List Int) (d : Int) : List Int × Int × Int := if progOk a b c && pointOk c.length xs d then ([(dotZ c xs).tdiv (gcdN d [dotZ c xs] 1)], d.tdiv (gcdN d [dotZ c xs] 1), 0) else ([], 0, 2)
def ValAny (w : World) (vs : List Int) (dd er : Int) (e : Ending) (w' : World) : Prop :=
  ∃ X cx, e = .returned (.tuple #[.agg #[.slice X vs.length cx, .int .i64 dd], .int .i64 er]) ∧ Ints w' X vs ∧ Below w.heap.size w w'
theorem valS_len (a : List (List Int)) (b c xs : List Int) (d : Int) : (valS a b c xs d).1.length ≤ 1 := by unfold valS; split <;> simp
theorem ValPost.any {w w' : World} {xs c : List Int} {d : Int} {e : Ending} (h : ValPost w xs c d e w') : ValAny w [(dotZ c xs).tdiv (gcdN d [dotZ c xs] 1)] (d.tdiv (gcdN d [dotZ c xs] 1)) 0 e w' := by
  obtain ⟨b, h1, -, h3, h4⟩ := h; exact ⟨_, _, h1, h3.ints, h4⟩
theorem valueL_any (A B C X : Option Addr) (ca cb cc cx : Nat) (a : List (List Int)) (b c xs : List Int) (d : Int) (w : World) (h : Prog3 w A B C a b c) (hX : Ints w X xs) (hm : xs.length ≤ maxLen) :
    Calls Tryz.prog 41 #[.agg #[.slice A a.length ca, .slice B b.length cb, .slice C c.length cc], .agg #[.slice X xs.length cx, .int .i64 d]] w (ValAny w (valS a b c xs d).1 (valS a b c xs d).2.1 (valS a b c xs d).2.2) := by
  unfold valS
  cases h1 : (progOk a b c && pointOk c.length xs d) with
  | true =>
    rw [Bool.and_eq_true] at h1
    rw [if_pos rfl]
    exact (value_ok A B C X ca cb cc cx a b c xs d w h hX hm h1.1 h1.2).mono fun e w' k => k.any
  | false =>
    rw [if_neg (by simp)]
    exact (value_bad A B C X ca cb cc cx a b c xs d w h hX hm h1).mono fun e w' ⟨k1, k2⟩ => ⟨none, 0, k1, Ints.nil _ _, k2⟩
theorem value1_any (A B C X : Option Addr) (ca cb cc cx : Nat) (a : List (List Int)) (b c xs : List Int) (d : Int) (w : World) (h : Prog3 w A B C a b c) (hX : Ints w X xs) (hm : xs.length ≤ maxLen) :
    Calls Tryz.prog 54 #[.agg #[.slice A a.length ca, .slice B b.length cb, .slice C c.length cc], .agg #[.slice X xs.length cx, .int .i64 d]] w (ValAny w (valS a b c xs d).1 (valS a b c xs d).2.1 (valS a b c xs d).2.2) := by
  unfold valS
  cases h1 : (progOk a b c && pointOk c.length xs d) with
  | true =>
    rw [Bool.and_eq_true] at h1
    rw [if_pos rfl]
    exact (value1_ok A B C X ca cb cc cx a b c xs d w h hX hm h1.1 h1.2).mono fun e w' k => k.any
  | false =>
    rw [if_neg (by simp)]
    exact (value1_bad A B C X ca cb cc cx a b c xs d w h hX hm h1).mono fun e w' ⟨k1, k2⟩ => ⟨none, 0, k1, Ints.nil _ _, k2⟩
set_option maxRecDepth 100000 in
set_option maxHeartbeats 4000000 in
theorem checks_row (A B C X : Option Addr) (ca cb cc cx : Nat) (a : List (List Int)) (b c xs : List Int) (d : Int) (w : World) (h : Prog3 w A B C a b c) (hX : Ints w X xs) (hm : xs.length ≤ maxLen) (hT : TabOk 0 costsO w) :
    Calls Tryz.prog 10 #[.agg #[.slice A a.length ca, .slice B b.length cb, .slice C c.length cc], .agg #[.slice X xs.length cx, .int .i64 d]] w fun e w' => e = .returned (.bool true) ∧ Below w.heap.size w w' := by
  obtain ⟨wa, hwa⟩ : ∃ wa, w.alloc (.cells #[.slice A a.length ca, .slice B b.length cb, .slice C c.length cc] 25 (0, 0)) = wa := ⟨_, rfl⟩
  obtain ⟨wb, hwb⟩ : ∃ wb, wa.alloc (.cells #[.slice X xs.length cx, .int .i64 d] 29 (0, 0)) = wb := ⟨_, rfl⟩
  have hlc := h.lc
  have sa : wa.heap.size = w.heap.size + 1 := by rw [← hwa]; simp
  have ba : Blk wa w.heap.size [.slice A a.length ca, .slice B b.length cb, .slice C c.length cc] 25 := by rw [← hwa]; exact Blk.new _ _ _
  have bb : Blk wb (w.heap.size + 1) [.slice X xs.length cx, .int .i64 d] 29 := by rw [← hwb, ← sa]; exact Blk.new _ _ _
  have ea : Below w.heap.size w wa := by rw [← hwa]; exact (Below.refl _ _).alloc (Nat.le_refl _) _
  have eb : Below wa.heap.size wa wb := by rw [← hwb]; exact (Below.refl _ _).alloc (Nat.le_refl _) _
  have e2 : Below w.heap.size w wb := ea.trans (eb.mono (by omega))
  have HBA := Lib.hid (ba.ext eb); have HBB := Lib.hid bb; have HE2 := Lib.hid e2
  have HT := Lib.hid hT; have HP := Lib.hid h; have HX := Lib.hid hX
  have HV := Lib.hid (lightL_calls A B C ca cb cc a b c wb (h.ext e2))
  have p0 := (ba.ext eb).cell 0 (by simp)
  have p1 := (ba.ext eb).cell 1 (by simp)
  have p2 := (ba.ext eb).cell 2 (by simp)
  simp only [List.getElem_cons_zero, List.getElem_cons_succ] at p0 p1 p2
  rw [← hwb, ← hwa] at p0 p1 p2
  have HWA := Lib.hid hwa; have HWB := Lib.hid hwb
  clear ba bb ea eb e2 h hX sa hwa hwb hT
  go_enter Tryz.func10, Tryz.ntmps10
  go_wp2_with fail
  rw [HWA.out, HWB.out]
  clear p0 p1 p2
  obtain ⟨bp, hbp⟩ : ∃ bp, w.heap.size = bp := ⟨_, rfl⟩
  obtain ⟨xp, hxp⟩ : ∃ xp, w.heap.size + 1 = xp := ⟨_, rfl⟩
  rw [hbp] at HBA
  rw [hxp] at HBB
  rw [hxp, hbp]
  have HBP := Lib.hid hbp
  clear hbp hxp
  refine HV.out.mono ?_; rintro e w1 ⟨rfl, hb1⟩
  have HB1 := Lib.hid (HE2.out.trans (hb1.mono HE2.out.size)); have HBA1 := Lib.hid (HBA.out.ext hb1); have HBB1 := Lib.hid (HBB.out.ext hb1)
  clear hb1 HV HBA HBB HE2
  cases hv : (fewB a b && decide (c.length ≤ 30)) with
  | false =>
    have HVV := Lib.hid hv
    clear hv
    have HAL := Lib.hid (alive_calls w1 (HT.out.ext HB1.out))
    go_wp2_with fail
    refine HAL.out.mono ?_; rintro e w2 ⟨rfl, hb2⟩
    have HB2 := Lib.hid (HB1.out.trans (hb2.mono HB1.out.size))
    clear hb2 HAL
    go_wp2
    go_ret
    exact ⟨rfl, HB2.out⟩
  | true =>
    have HVV := Lib.hid hv
    clear hv
    have x0 := HBB1.out.cell 0 (by simp)
    simp only [List.getElem_cons_zero] at x0
    have hmx : xs.length ≤ 9223372036854775807 := hm
    by_cases h30 : 30 < xs.length
    · have d30 : decide (30 < (xs.length : Int)) = true := decide_eq_true (by omega)
      clear h30
      have HAL := Lib.hid (alive_calls w1 (HT.out.ext HB1.out))
      go_wp2_with fail
      refine HAL.out.mono ?_; rintro e w2 ⟨rfl, hb2⟩
      have HB2 := Lib.hid (HB1.out.trans (hb2.mono HB1.out.size))
      clear hb2 HAL
      go_wp2
      go_ret
      exact ⟨rfl, HB2.out⟩
    · have d30 : decide (30 < (xs.length : Int)) = false := decide_eq_false (by omega)
      have hlx : xs.length ≤ 1000 := by omega
      have HX1 := Lib.hid (HX.out.ext HB1.out)
      have hxl := Blk.lt HBB1.out
      clear h30 hmx
      go_wp2_with (at_builtin; go_loud (refine wpList_copyI (base := w1.heap.size) (g0 := w1.heap.size) (xs := xs) rfl _ _ rfl rfl rfl (World.ownsRow_made w1 #[] 0 (Nat.le_refl _) (Nat.zero_le _) rfl) (HX1.out.ext ((Below.refl _ w1).alloc (Nat.le_refl _) _)) hlx (by simp) ?_))
      intro XC cC w2 HXC hcC1 hcC2 hbc
      have hb2 : Below w1.heap.size w1 w2 := ((Below.refl _ w1).alloc (Nat.le_refl _) _).trans hbc.out
      have HB2 := Lib.hid (HB1.out.trans (hb2.mono HB1.out.size)); have HBA2 := Lib.hid (HBA1.out.ext hb2); have HBB2 := Lib.hid (HBB1.out.ext hb2)
      clear hb2 hbc HBA1 HBB1 x0 hxl
      have k0 := HBA2.out.cell 0 (by simp)
      have k1 := HBA2.out.cell 1 (by simp)
      have k2 := HBA2.out.cell 2 (by simp)
      have x0 := HBB2.out.cell 0 (by simp)
      have x1 := HBB2.out.cell 1 (by simp)
      simp only [List.getElem_cons_zero, List.getElem_cons_succ] at k0 k1 k2 x0 x1
      obtain ⟨vs, dd, er, hvs⟩ : ∃ vs dd er, valS a b c xs d = (vs, dd, er) := ⟨_, _, _, rfl⟩
      have hv1 := valS_len a b c xs d
      have hva := valueL_any A B C X ca cb cc cx a b c xs d w2 (HP.out.ext HB2.out) (HX.out.ext HB2.out) hm
      rw [hvs] at hva hv1
      dsimp only at hva hv1
      have HVL := Lib.hid hva; have HVS := Lib.hid hvs; have HV1 := Lib.hid hv1
      clear hva hvs hv1
      go_wp2_with fail
      refine HVL.out.mono ?_; rintro e w3 ⟨V, cv, rfl, hIV, hb3⟩
      have HB3 := Lib.hid (HB2.out.trans (hb3.mono HB2.out.size)); have HBA3 := Lib.hid (HBA2.out.ext hb3); have HBB3 := Lib.hid (HBB2.out.ext hb3); have HXC3 := Lib.hid (HXC.out.ext hb3); have HIV := Lib.hid hIV
      clear hb3 HVL HBA2 HBB2 k0 k1 k2 x0 x1 hIV
      obtain ⟨w4, hw4⟩ : ∃ w4, w3.alloc (.cells #[.slice V vs.length cv, .int .i64 dd] 29 (0, 0)) = w4 := ⟨_, rfl⟩
      have hb4 : Below w3.heap.size w3 w4 := by rw [← hw4]; exact (Below.refl _ _).alloc (Nat.le_refl _) _
      have bq : Blk w4 w3.heap.size [.slice V vs.length cv, .int .i64 dd] 29 := by rw [← hw4]; exact Blk.new _ _ _
      have HB4 := Lib.hid (HB3.out.trans (hb4.mono HB3.out.size)); have HBA4 := HBA3.out.ext hb4; have HBB4 := HBB3.out.ext hb4; have HXC4 := Lib.hid (HXC3.out.ext hb4); have HIV4 := Lib.hid (HIV.out.ext hb4)
      have k0 := HBA4.cell 0 (by simp)
      have k1 := HBA4.cell 1 (by simp)
      have k2 := HBA4.cell 2 (by simp)
      have x0 := HBB4.cell 0 (by simp)
      have x1 := HBB4.cell 1 (by simp)
      simp only [List.getElem_cons_zero, List.getElem_cons_succ] at k0 k1 k2 x0 x1
      rw [← hw4] at k0 k1 k2 x0 x1
      have HBA5 := Lib.hid HBA4; have HBB5 := Lib.hid HBB4; have HBQ := Lib.hid bq; have HW4 := Lib.hid hw4
      have hvr := value1_any A B C X ca cb cc cx a b c xs d w4 (HP.out.ext HB4.out) (HX.out.ext HB4.out) hm
      rw [HVS.out] at hvr
      dsimp only at hvr
      have HVR := Lib.hid hvr
      clear HBA4 HBB4 bq hw4 hb4 HBA3 HBB3 HXC3 HB3 hvr
      go_wp2_with fail
      rw [HW4.out]
      clear k0 k1 k2 x0 x1
      refine HVR.out.mono ?_; rintro e w5 ⟨U, cu, rfl, hIU, hb5⟩
      obtain ⟨w6, hw6⟩ : ∃ w6, w5.alloc (.cells #[.slice U vs.length cu, .int .i64 dd] 29 (0, 0)) = w6 := ⟨_, rfl⟩
      have hb6 : Below w5.heap.size w5 w6 := by rw [← hw6]; exact (Below.refl _ _).alloc (Nat.le_refl _) _
      have hb56 := hb5.trans (hb6.mono hb5.size)
      have bq := HBQ.out.ext hb56
      have br : Blk w6 w5.heap.size [.slice U vs.length cu, .int .i64 dd] 29 := by rw [← hw6]; exact Blk.new _ _ _
      have HB6 := Lib.hid (HB4.out.trans (hb56.mono HB4.out.size)); have HBA6 := Lib.hid (HBA5.out.ext hb56); have HBB6 := Lib.hid (HBB5.out.ext hb56); have HXC6 := Lib.hid (HXC4.out.ext hb56)
      have q0 := bq.cell 0 (by simp)
      have q1 := bq.cell 1 (by simp)
      have r0 := br.cell 0 (by simp)
      have r1 := br.cell 1 (by simp)
      simp only [List.getElem_cons_zero, List.getElem_cons_succ] at q0 q1 r0 r1
      rw [← hw6] at q0 q1 r0 r1
      have HW6 := Lib.hid hw6
      have hvl : vs.length ≤ maxLen := by have := HV1.out; unfold maxLen; omega
      have hsm := same_calls V U cv cu vs vs w6 hvl hvl ((HIV4.out.ext hb56)) (hIU.ext hb6)
      rw [show sameB vs vs = true by simp [sameB]] at hsm
      have HSM := Lib.hid hsm
      have z1 : (er != er) = false := by simp
      have z2 : (dd != dd) = false := by simp
      clear bq br hw6 hb6 hb56 hb5 HVR HBA5 HBB5 HXC4 HB4 hvl hsm hIU
      go_wp2_with fail
      rw [HW6.out]
      clear q0 q1 r0 r1
      refine HSM.out.mono ?_; rintro e w7 ⟨rfl, kq, hkq⟩
      have hb7 : Below w6.heap.size w6 w7 := by rw [hkq]; exact drewN_below _ _
      have HB7 := Lib.hid (HB6.out.trans (hb7.mono HB6.out.size)); have HBA7 := Lib.hid (HBA6.out.ext hb7); have HBB7 := Lib.hid (HBB6.out.ext hb7); have HXC7 := Lib.hid (HXC6.out.ext hb7)
      clear hkq hb7 HSM HBA6 HBB6 HXC6 HB6
      have k0 := HBA7.out.cell 0 (by simp)
      have k1 := HBA7.out.cell 1 (by simp)
      have k2 := HBA7.out.cell 2 (by simp)
      have x0 := HBB7.out.cell 0 (by simp)
      have x1 := HBB7.out.cell 1 (by simp)
      simp only [List.getElem_cons_zero, List.getElem_cons_succ] at k0 k1 k2 x0 x1
      have HFL : Hid (∀ W, Below w7.heap.size w7 W → Calls Tryz.prog 40 #[.agg #[.slice A a.length ca, .slice B b.length cb, .slice C c.length cc], .agg #[.slice X xs.length cx, .int .i64 d]] W fun e w' => e = .returned (.bool (feasS a b c xs d)) ∧ Below W.heap.size W w') := Lib.hid fun W hW => feasibleL_calls A B C X ca cb cc cx a b c xs d W (HP.out.ext (HB7.out.trans (hW.mono HB7.out.size))) (HX.out.ext (HB7.out.trans (hW.mono HB7.out.size))) hm
      have HFR : Hid (∀ W, Below w7.heap.size w7 W → Calls Tryz.prog 24 #[.agg #[.slice A a.length ca, .slice B b.length cb, .slice C c.length cc], .agg #[.slice X xs.length cx, .int .i64 d]] W fun e w' => e = .returned (.bool (feasS a b c xs d)) ∧ Below W.heap.size W w') := Lib.hid fun W hW => feas1_calls A B C X ca cb cc cx a b c xs d W (HP.out.ext (HB7.out.trans (hW.mono HB7.out.size))) (HX.out.ext (HB7.out.trans (hW.mono HB7.out.size))) hm
      have HBL : Hid (∀ W, Below w7.heap.size w7 W → Calls Tryz.prog 51 #[.agg #[.slice A a.length ca, .slice B b.length cb, .slice C c.length cc], .agg #[.slice X xs.length cx, .int .i64 d]] W fun e w' => e = .returned (.bool (boundsS a b c xs d)) ∧ Below W.heap.size W w') := Lib.hid fun W hW => boundsL_calls A B C X ca cb cc cx a b c xs d W (HP.out.ext (HB7.out.trans (hW.mono HB7.out.size))) (HX.out.ext (HB7.out.trans (hW.mono HB7.out.size))) hm
      have HBR : Hid (∀ W, Below w7.heap.size w7 W → Calls Tryz.prog 25 #[.agg #[.slice A a.length ca, .slice B b.length cb, .slice C c.length cc], .agg #[.slice X xs.length cx, .int .i64 d]] W fun e w' => e = .returned (.bool (boundsS a b c xs d)) ∧ Below W.heap.size W w') := Lib.hid fun W hW => bounds1_calls A B C X ca cb cc cx a b c xs d W (HP.out.ext (HB7.out.trans (hW.mono HB7.out.size))) (HX.out.ext (HB7.out.trans (hW.mono HB7.out.size))) hm
      obtain ⟨fe, hfe⟩ : ∃ fe, feasS a b c xs d = fe := ⟨_, rfl⟩
      obtain ⟨bo, hbo⟩ : ∃ bo, boundsS a b c xs d = bo := ⟨_, rfl⟩
      rw [hfe] at HFL HFR
      rw [hbo] at HBL HBR
      have y1 : (fe != fe) = false := by simp
      have y2 : (bo != bo) = false := by simp
      clear hfe hbo z1 z2
      go_wp2_with fail
      refine wp_region_keys (w0 := w7) 16 [54, 55, 56, 57, 58, 59, 60, 61, 62, 63, 64, 65, 66, 67, 68, 69]
        [leafS 54 (.agg #[.slice A a.length ca, .slice B b.length cb, .slice C c.length cc]), leafS 55 (.agg #[.slice X xs.length cx, .int .i64 d]), leafS 56 (.bool fe), leafS 57 (.agg #[.slice A a.length ca, .slice B b.length cb, .slice C c.length cc]), leafS 58 (.agg #[.slice X xs.length cx, .int .i64 d]), leafS 59 (.bool fe), leafS 60 (.bool false), leafS 61 (.bool false), leafS 62 (.agg #[.slice A a.length ca, .slice B b.length cb, .slice C c.length cc]), leafS 63 (.agg #[.slice X xs.length cx, .int .i64 d]), leafS 64 (.bool bo), leafS 65 (.agg #[.slice A a.length ca, .slice B b.length cb, .slice C c.length cc]), leafS 66 (.agg #[.slice X xs.length cx, .int .i64 d]), leafS 67 (.bool bo), leafS 68 (.bool false), leafS 69 (.bool false)]
        [] [none, none, none, none, none, none, none, none, none, none, none, none, none, none, none, none] NoBlk (by kernel_rfl) (by kernel_rfl) (by kernel_rfl) rfl (F := ?cFr8) ?r8c1 ?r8c2 ?r8c3 ?r8c4
      case r8c1 =>
        intro x
        simp only [fullF, Act.put, List.setIfInBounds_toArray, List.set_cons_zero, List.set_cons_succ]
        rfl
      case r8c2 =>
        exact ⟨keeps_const _ _ _ _ _ _ _, keeps_const _ _ _ _ _ _ _, keeps_const _ _ _ _ _ _ _, keeps_const _ _ _ _ _ _ _, keeps_const _ _ _ _ _ _ _, keeps_const _ _ _ _ _ _ _, keeps_const _ _ _ _ _ _ _, keeps_const _ _ _ _ _ _ _, keeps_const _ _ _ _ _ _ _, keeps_const _ _ _ _ _ _ _, keeps_const _ _ _ _ _ _ _, keeps_const _ _ _ _ _ _ _, keeps_const _ _ _ _ _ _ _, keeps_const _ _ _ _ _ _ _, keeps_const _ _ _ _ _ _ _, keeps_const _ _ _ _ _ _ _, trivial⟩
      case r8c3 =>
        refine ⟨?_, ?_, ?_, ?_, ?_, ?_, ?_, ?_, ?_, ?_, ?_, ?_, ?_, ?_, ?_, ?_, trivial⟩
        all_goals
          intro xx wq HE hd K hK
          have hc := (bcell HE).1
          have k0' := (hc _ _ (cell_lt k0)).trans k0
          have k1' := (hc _ _ (cell_lt k1)).trans k1
          have k2' := (hc _ _ (cell_lt k2)).trans k2
          have x0' := (hc _ _ (cell_lt x0)).trans x0
          have x1' := (hc _ _ (cell_lt x1)).trans x1
          try have e0 : xx 54 = _ := hd 0 _ (by decide) rfl
          try have e1 : xx 55 = _ := hd 1 _ (by decide) rfl
          try have e2 : xx 56 = _ := hd 2 _ (by decide) rfl
          try have e3 : xx 57 = _ := hd 3 _ (by decide) rfl
          try have e4 : xx 58 = _ := hd 4 _ (by decide) rfl
          try have e5 : xx 59 = _ := hd 5 _ (by decide) rfl
          try have e6 : xx 60 = _ := hd 6 _ (by decide) rfl
          try have e7 : xx 61 = _ := hd 7 _ (by decide) rfl
          try have e8 : xx 62 = _ := hd 8 _ (by decide) rfl
          try have e9 : xx 63 = _ := hd 9 _ (by decide) rfl
          try have e10 : xx 64 = _ := hd 10 _ (by decide) rfl
          try have e11 : xx 65 = _ := hd 11 _ (by decide) rfl
          try have e12 : xx 66 = _ := hd 12 _ (by decide) rfl
          try have e13 : xx 67 = _ := hd 13 _ (by decide) rfl
          try have e14 : xx 68 = _ := hd 14 _ (by decide) rfl
          try have e15 : xx 69 = _ := hd 15 _ (by decide) rfl
          have HE := Lib.hid HE
          have HC := Lib.hid hc
          clear hd hc
          all_goals go_simp
          try (refine hK _ _ _ (mv_const _ rfl) ?_; dsimp only [Act.put]; first | done | rfl | (simp [*]; done))
        · refine (HFL.out wq HE.out).mono ?_
          rintro e w8 ⟨rfl, hb⟩
          exact hK _ _ _ (mv_plain hb rfl rfl) (by first | (dsimp only [Act.put]; done) | (dsimp only [Act.put]; first | rfl | (simp [*]; done) | (simp [*, ptr]; done)))
        · refine (HFR.out wq HE.out).mono ?_
          rintro e w8 ⟨rfl, hb⟩
          exact hK _ _ _ (mv_plain hb rfl rfl) (by first | (dsimp only [Act.put]; done) | (dsimp only [Act.put]; first | rfl | (simp [*]; done) | (simp [*, ptr]; done)))
        · refine (HBL.out wq HE.out).mono ?_
          rintro e w8 ⟨rfl, hb⟩
          exact hK _ _ _ (mv_plain hb rfl rfl) (by first | (dsimp only [Act.put]; done) | (dsimp only [Act.put]; first | rfl | (simp [*]; done) | (simp [*, ptr]; done)))
        · refine (HBR.out wq HE.out).mono ?_
          rintro e w8 ⟨rfl, hb⟩
          exact hK _ _ _ (mv_plain hb rfl rfl) (by first | (dsimp only [Act.put]; done) | (dsimp only [Act.put]; first | rfl | (simp [*]; done) | (simp [*, ptr]; done)))
      case r8c4 =>
        intro xx wz hE hG hA
        have e0 : xx 54 = _ := hG 0 _ rfl
        have e1 : xx 55 = _ := hG 1 _ rfl
        have e2 : xx 56 = _ := hG 2 _ rfl
        have e3 : xx 57 = _ := hG 3 _ rfl
        have e4 : xx 58 = _ := hG 4 _ rfl
        have e5 : xx 59 = _ := hG 5 _ rfl
        have e6 : xx 60 = _ := hG 6 _ rfl
        have e7 : xx 61 = _ := hG 7 _ rfl
        have e8 : xx 62 = _ := hG 8 _ rfl
        have e9 : xx 63 = _ := hG 9 _ rfl
        have e10 : xx 64 = _ := hG 10 _ rfl
        have e11 : xx 65 = _ := hG 11 _ rfl
        have e12 : xx 66 = _ := hG 12 _ rfl
        have e13 : xx 67 = _ := hG 13 _ rfl
        have e14 : xx 68 = _ := hG 14 _ rfl
        have e15 : xx 69 = _ := hG 15 _ rfl
        have HB8 := Lib.hid (HB7.out.trans (hE.mono HB7.out.size)); have HBA8 := Lib.hid (HBA7.out.ext hE); have HBB8 := Lib.hid (HBB7.out.ext hE); have HXC8 := Lib.hid (HXC7.out.ext hE)
        clear hG hA hE HBA7 HBB7 HXC7 HB7 k0 k1 k2 x0 x1 HFL HFR HBL HBR y1 y2
        refine wpAny_done (by kernel_rfl) ?_ _
        rw [e0, e1, e2, e3, e4, e5, e6, e7, e8, e9, e10, e11, e12, e13, e14, e15]
        have k0 := HBA8.out.cell 0 (by simp)
        have k1 := HBA8.out.cell 1 (by simp)
        have k2 := HBA8.out.cell 2 (by simp)
        have x0 := HBB8.out.cell 0 (by simp)
        have x1 := HBB8.out.cell 1 (by simp)
        simp only [List.getElem_cons_zero, List.getElem_cons_succ, List.map_cons, List.map_nil] at k0 k1 k2 x0 x1
        have HDL : Hid (∀ W, Below wz.heap.size wz W → Calls Tryz.prog 50 #[.agg #[.slice A a.length ca, .slice B b.length cb, .slice C c.length cc], .agg #[.slice X xs.length cx, .int .i64 d]] W fun e w' => e = .returned (.bool (deniesS a b c xs d)) ∧ Below W.heap.size W w') := Lib.hid fun W hW => deniesL_calls A B C X ca cb cc cx a b c xs d W (HP.out.ext (HB8.out.trans (hW.mono HB8.out.size))) (HX.out.ext (HB8.out.trans (hW.mono HB8.out.size))) hm
        have HDR : Hid (∀ W, Below wz.heap.size wz W → Calls Tryz.prog 27 #[.agg #[.slice A a.length ca, .slice B b.length cb, .slice C c.length cc], .agg #[.slice X xs.length cx, .int .i64 d]] W fun e w' => e = .returned (.bool (deniesS a b c xs d)) ∧ Below W.heap.size W w') := Lib.hid fun W hW => denies1_calls A B C X ca cb cc cx a b c xs d W (HP.out.ext (HB8.out.trans (hW.mono HB8.out.size))) (HX.out.ext (HB8.out.trans (hW.mono HB8.out.size))) hm
        have HAL : Hid (∀ W, Below wz.heap.size wz W → Calls Tryz.prog 55 #[.agg #[.slice A a.length ca, .slice B b.length cb, .slice C c.length cc], .agg #[.slice X xs.length cx, .int .i64 d]] W fun e w' => e = .returned (.bool (fallsS a b c xs d)) ∧ Below W.heap.size W w') := Lib.hid fun W hW => fallsL_calls A B C X ca cb cc cx a b c xs d W (HP.out.ext (HB8.out.trans (hW.mono HB8.out.size))) (HX.out.ext (HB8.out.trans (hW.mono HB8.out.size))) hm
        have HAR : Hid (∀ W, Below wz.heap.size wz W → Calls Tryz.prog 28 #[.agg #[.slice A a.length ca, .slice B b.length cb, .slice C c.length cc], .agg #[.slice X xs.length cx, .int .i64 d]] W fun e w' => e = .returned (.bool (fallsS a b c xs d)) ∧ Below W.heap.size W w') := Lib.hid fun W hW => falls1_calls A B C X ca cb cc cx a b c xs d W (HP.out.ext (HB8.out.trans (hW.mono HB8.out.size))) (HX.out.ext (HB8.out.trans (hW.mono HB8.out.size))) hm
        have HLV : Hid (∀ W, Below wz.heap.size wz W → Calls Tryz.prog 15 #[] W fun e w' => e = .returned (.bool true) ∧ Below W.heap.size W w') := Lib.hid fun W hW => alive_calls W (HT.out.ext (HB8.out.trans (hW.mono HB8.out.size)))
        have HSS : Hid (∀ W, Below wz.heap.size wz W → Calls Tryz.prog 36 #[.slice XC xs.length cC, .slice X xs.length cx] W fun e w' => e = .returned (.bool true) ∧ ∃ k, w' = W.drewN k) := Lib.hid fun W hW => by
          have := same_calls XC X cC cx xs xs W hm hm (HXC8.out.ext hW) (HX.out.ext (HB8.out.trans (hW.mono HB8.out.size)))
          rw [show sameB xs xs = true by simp [sameB]] at this; exact this
        obtain ⟨fe, hfe⟩ : ∃ fe, deniesS a b c xs d = fe := ⟨_, rfl⟩
        obtain ⟨bo, hbo⟩ : ∃ bo, fallsS a b c xs d = bo := ⟨_, rfl⟩
        rw [hfe] at HDL HDR
        rw [hbo] at HAL HAR
        have y1 : (fe == fe) = true := by simp
        have y2 : (bo == bo) = true := by simp
        clear hfe hbo
        go_wp2
        refine wp_region_keys (w0 := wz) 25 [70, 71, 72, 73, 74, 75, 76, 77, 78, 79, 80, 81, 82, 83, 84, 85, 86, 87, 88, 89, 90, 91, 92, 93, 94]
          [leafS 70 (.agg #[.slice A a.length ca, .slice B b.length cb, .slice C c.length cc]), leafS 71 (.agg #[.slice X xs.length cx, .int .i64 d]), leafS 72 (.bool fe), leafS 73 (.agg #[.slice A a.length ca, .slice B b.length cb, .slice C c.length cc]), leafS 74 (.agg #[.slice X xs.length cx, .int .i64 d]), leafS 75 (.bool fe), leafS 76 (.bool true), leafS 77 (.bool true), leafS 78 (.agg #[.slice A a.length ca, .slice B b.length cb, .slice C c.length cc]), leafS 79 (.agg #[.slice X xs.length cx, .int .i64 d]), leafS 80 (.bool bo), leafS 81 (.agg #[.slice A a.length ca, .slice B b.length cb, .slice C c.length cc]), leafS 82 (.agg #[.slice X xs.length cx, .int .i64 d]), leafS 83 (.bool bo), leafS 84 (.bool true), leafS 85 (.bool true), leafS 86 (.bool true), leafS 87 (.slice XC xs.length cC), leafS 88 (.pointer (some ⟨xp, 0, none⟩)), leafS 89 (.slice X xs.length cx), leafS 90 (.bool true), leafS 91 (.bool true), leafS 92 (.bool true), leafS 93 (.bool true), leafS 94 (.bool true)]
          [] [none, none, none, none, none, none, none, none, none, none, none, none, none, none, none, none, none, none, none, none, none, none, none, none, none] NoBlk (by kernel_rfl) (by kernel_rfl) (by kernel_rfl) rfl (F := ?cFr10) ?r10c1 ?r10c2 ?r10c3 ?r10c4
        case r10c1 =>
          intro x
          simp only [fullF, Act.put, List.setIfInBounds_toArray, List.set_cons_zero, List.set_cons_succ]
          rfl
        case r10c2 =>
          exact ⟨keeps_const _ _ _ _ _ _ _, keeps_const _ _ _ _ _ _ _, keeps_const _ _ _ _ _ _ _, keeps_const _ _ _ _ _ _ _, keeps_const _ _ _ _ _ _ _, keeps_const _ _ _ _ _ _ _, keeps_const _ _ _ _ _ _ _, keeps_const _ _ _ _ _ _ _, keeps_const _ _ _ _ _ _ _, keeps_const _ _ _ _ _ _ _, keeps_const _ _ _ _ _ _ _, keeps_const _ _ _ _ _ _ _, keeps_const _ _ _ _ _ _ _, keeps_const _ _ _ _ _ _ _, keeps_const _ _ _ _ _ _ _, keeps_const _ _ _ _ _ _ _, keeps_const _ _ _ _ _ _ _, keeps_const _ _ _ _ _ _ _, keeps_const _ _ _ _ _ _ _, keeps_const _ _ _ _ _ _ _, keeps_const _ _ _ _ _ _ _, keeps_const _ _ _ _ _ _ _, keeps_const _ _ _ _ _ _ _, keeps_const _ _ _ _ _ _ _, keeps_const _ _ _ _ _ _ _, trivial⟩
        case r10c3 =>
          refine ⟨?_, ?_, ?_, ?_, ?_, ?_, ?_, ?_, ?_, ?_, ?_, ?_, ?_, ?_, ?_, ?_, ?_, ?_, ?_, ?_, ?_, ?_, ?_, ?_, ?_, trivial⟩
          all_goals
            intro xx wq HE hd K hK
            have hc := (bcell HE).1
            have k0' := (hc _ _ (cell_lt k0)).trans k0
            have k1' := (hc _ _ (cell_lt k1)).trans k1
            have k2' := (hc _ _ (cell_lt k2)).trans k2
            have x0' := (hc _ _ (cell_lt x0)).trans x0
            have x1' := (hc _ _ (cell_lt x1)).trans x1
            try have e0 : xx 70 = _ := hd 0 _ (by decide) rfl
            try have e1 : xx 71 = _ := hd 1 _ (by decide) rfl
            try have e2 : xx 72 = _ := hd 2 _ (by decide) rfl
            try have e3 : xx 73 = _ := hd 3 _ (by decide) rfl
            try have e4 : xx 74 = _ := hd 4 _ (by decide) rfl
            try have e5 : xx 75 = _ := hd 5 _ (by decide) rfl
            try have e6 : xx 76 = _ := hd 6 _ (by decide) rfl
            try have e7 : xx 77 = _ := hd 7 _ (by decide) rfl
            try have e8 : xx 78 = _ := hd 8 _ (by decide) rfl
            try have e9 : xx 79 = _ := hd 9 _ (by decide) rfl
            try have e10 : xx 80 = _ := hd 10 _ (by decide) rfl
            try have e11 : xx 81 = _ := hd 11 _ (by decide) rfl
            try have e12 : xx 82 = _ := hd 12 _ (by decide) rfl
            try have e13 : xx 83 = _ := hd 13 _ (by decide) rfl
            try have e14 : xx 84 = _ := hd 14 _ (by decide) rfl
            try have e15 : xx 85 = _ := hd 15 _ (by decide) rfl
            try have e16 : xx 86 = _ := hd 16 _ (by decide) rfl
            try have e17 : xx 87 = _ := hd 17 _ (by decide) rfl
            try have e18 : xx 88 = _ := hd 18 _ (by decide) rfl
            try have e19 : xx 89 = _ := hd 19 _ (by decide) rfl
            try have e20 : xx 90 = _ := hd 20 _ (by decide) rfl
            try have e21 : xx 91 = _ := hd 21 _ (by decide) rfl
            try have e22 : xx 92 = _ := hd 22 _ (by decide) rfl
            try have e23 : xx 93 = _ := hd 23 _ (by decide) rfl
            try have e24 : xx 94 = _ := hd 24 _ (by decide) rfl
            have HE := Lib.hid HE
            have HC := Lib.hid hc
            clear hd hc
            all_goals go_simp
            try (refine hK _ _ _ (mv_const _ rfl) ?_; dsimp only [Act.put]; first | done | rfl | (simp [*]; done))
          · refine (HDL.out wq HE.out).mono ?_
            rintro e w8 ⟨rfl, hb⟩
            exact hK _ _ _ (mv_plain hb rfl rfl) (by first | (dsimp only [Act.put]; done) | (dsimp only [Act.put]; first | rfl | (simp [*]; done) | (simp [*, ptr]; done)))
          · refine (HDR.out wq HE.out).mono ?_
            rintro e w8 ⟨rfl, hb⟩
            exact hK _ _ _ (mv_plain hb rfl rfl) (by first | (dsimp only [Act.put]; done) | (dsimp only [Act.put]; first | rfl | (simp [*]; done) | (simp [*, ptr]; done)))
          · refine (HAL.out wq HE.out).mono ?_
            rintro e w8 ⟨rfl, hb⟩
            exact hK _ _ _ (mv_plain hb rfl rfl) (by first | (dsimp only [Act.put]; done) | (dsimp only [Act.put]; first | rfl | (simp [*]; done) | (simp [*, ptr]; done)))
          · refine (HAR.out wq HE.out).mono ?_
            rintro e w8 ⟨rfl, hb⟩
            exact hK _ _ _ (mv_plain hb rfl rfl) (by first | (dsimp only [Act.put]; done) | (dsimp only [Act.put]; first | rfl | (simp [*]; done) | (simp [*, ptr]; done)))
          · refine (HSS.out wq HE.out).mono ?_
            rintro e w8 ⟨rfl, kq, hkq⟩
            exact hK _ _ _ (mv_plain (by rw [hkq]; exact drewN_below _ _) rfl rfl) (by first | (dsimp only [Act.put]; done) | (dsimp only [Act.put]; first | rfl | (simp [*]; done) | (simp [*, ptr]; done)))
          · refine (HLV.out wq HE.out).mono ?_
            rintro e w8 ⟨rfl, hb⟩
            exact hK _ _ _ (mv_plain hb rfl rfl) (by first | (dsimp only [Act.put]; done) | (dsimp only [Act.put]; first | rfl | (simp [*]; done) | (simp [*, ptr]; done)))
        case r10c4 =>
          intro xx wz hE hG hA
          have e0 : xx 70 = _ := hG 0 _ rfl
          have e1 : xx 71 = _ := hG 1 _ rfl
          have e2 : xx 72 = _ := hG 2 _ rfl
          have e3 : xx 73 = _ := hG 3 _ rfl
          have e4 : xx 74 = _ := hG 4 _ rfl
          have e5 : xx 75 = _ := hG 5 _ rfl
          have e6 : xx 76 = _ := hG 6 _ rfl
          have e7 : xx 77 = _ := hG 7 _ rfl
          have e8 : xx 78 = _ := hG 8 _ rfl
          have e9 : xx 79 = _ := hG 9 _ rfl
          have e10 : xx 80 = _ := hG 10 _ rfl
          have e11 : xx 81 = _ := hG 11 _ rfl
          have e12 : xx 82 = _ := hG 12 _ rfl
          have e13 : xx 83 = _ := hG 13 _ rfl
          have e14 : xx 84 = _ := hG 14 _ rfl
          have e15 : xx 85 = _ := hG 15 _ rfl
          have e16 : xx 86 = _ := hG 16 _ rfl
          have e17 : xx 87 = _ := hG 17 _ rfl
          have e18 : xx 88 = _ := hG 18 _ rfl
          have e19 : xx 89 = _ := hG 19 _ rfl
          have e20 : xx 90 = _ := hG 20 _ rfl
          have e21 : xx 91 = _ := hG 21 _ rfl
          have e22 : xx 92 = _ := hG 22 _ rfl
          have e23 : xx 93 = _ := hG 23 _ rfl
          have e24 : xx 94 = _ := hG 24 _ rfl
          have HBz := Lib.hid (HB8.out.trans (hE.mono HB8.out.size))
          clear hG hA hE
          (refine tail_one (i := 25) (by kernel_rfl) rfl ?_; intro K hK; go_simp; refine hK _ _ ?_; clear hK)
          refine wpAny_done (by kernel_rfl) ?_ _
          go_wp2
          go_ret
          exact ⟨rfl, HBz.out⟩
end Go.Proofs.YtkljafmdbajfeaaGreatDoor
