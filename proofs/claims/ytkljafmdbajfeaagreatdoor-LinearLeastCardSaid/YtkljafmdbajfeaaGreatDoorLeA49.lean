/- The row LinearLeast. -/
import Derived.Test.YtkljafmdbajfeaaGreatDoorLeA48
namespace Go.Proofs.YtkljafmdbajfeaaGreatDoor
open Go.RowKit
open Lp (EndFound EndEmpty EndFree)
set_option linter.unusedVariables false
set_option linter.unusedSimpArgs false
set_option maxRecDepth 100000 in
set_option maxHeartbeats 4000000 in
theorem least_row (A B C X : Option Addr) (ca cb cc cx : Nat) (a : List (List Int)) (b c xs : List Int) (d : Int) (w : World) (h : Prog3 w A B C a b c) (hX : Ints w X xs) (hm : xs.length ≤ maxLen) (hT : TabOk 0 costsO w) :
    Calls Tryz.prog 7 #[.agg #[.slice A a.length ca, .slice B b.length cb, .slice C c.length cc], .agg #[.slice X xs.length cx, .int .i64 d]] w fun e w' => e = .returned (.bool true) ∧ Below w.heap.size w w' := by
  obtain ⟨wa, hwa⟩ : ∃ wa, w.alloc (.cells #[.slice A a.length ca, .slice B b.length cb, .slice C c.length cc] 25 (0, 0)) = wa := ⟨_, rfl⟩
  obtain ⟨wb, hwb⟩ : ∃ wb, wa.alloc (.cells #[.slice X xs.length cx, .int .i64 d] 29 (0, 0)) = wb := ⟨_, rfl⟩
  have hlc := h.lc
  have sa : wa.heap.size = w.heap.size + 1 := by rw [← hwa]; simp
  have ba : Blk wa w.heap.size [.slice A a.length ca, .slice B b.length cb, .slice C c.length cc] 25 := by rw [← hwa]; exact Blk.new _ _ _
  have bb : Blk wb (w.heap.size + 1) [.slice X xs.length cx, .int .i64 d] 29 := by rw [← hwb, ← sa]; exact Blk.new _ _ _
  have ea : Below w.heap.size w wa := by rw [← hwa]; exact (Below.refl _ _).alloc (Nat.le_refl _) _
  have eb : Below wa.heap.size wa wb := by rw [← hwb]; exact (Below.refl _ _).alloc (Nat.le_refl _) _
  have e2 : Below w.heap.size w wb := ea.trans (eb.mono (by omega))
  have HBA := Lib.hid (ba.ext eb); have HBB := Lib.hid bb; have HE2 := Lib.hid e2
  have HT := Lib.hid hT; have HP := Lib.hid h; have HX := Lib.hid hX
  have HV := Lib.hid (lightL_calls A B C ca cb cc a b c wb (h.ext e2))
  have p0 := (ba.ext eb).cell 0 (by simp)
  have p1 := (ba.ext eb).cell 1 (by simp)
  have p2 := (ba.ext eb).cell 2 (by simp)
  simp only [List.getElem_cons_zero, List.getElem_cons_succ] at p0 p1 p2
  rw [← hwb, ← hwa] at p0 p1 p2
  have HWA := Lib.hid hwa; have HWB := Lib.hid hwb
  clear ba bb ea eb e2 h hX sa hwa hwb hT
  go_enter Tryz.func7, Tryz.ntmps7
  go_wp2_with fail
  rw [HWA.out, HWB.out]
  clear p0 p1 p2
  obtain ⟨bp, hbp⟩ : ∃ bp, w.heap.size = bp := ⟨_, rfl⟩
  obtain ⟨xp, hxp⟩ : ∃ xp, w.heap.size + 1 = xp := ⟨_, rfl⟩
  rw [hbp] at HBA
  rw [hxp] at HBB
  rw [hxp, hbp]
  have HBP := Lib.hid hbp
  clear hbp hxp
  refine HV.out.mono ?_; rintro e w1 ⟨rfl, hb1⟩
  have HB1 := Lib.hid (HE2.out.trans (hb1.mono HE2.out.size)); have HBA1 := Lib.hid (HBA.out.ext hb1); have HBB1 := Lib.hid (HBB.out.ext hb1)
  clear hb1 HV HBA HBB HE2
  cases hv : (fewB a b && decide (c.length ≤ 30)) with
  | false =>
    have HVV := Lib.hid hv
    clear hv
    have HAL := Lib.hid (alive_calls w1 (HT.out.ext HB1.out))
    go_wp2_with fail
    refine HAL.out.mono ?_; rintro e w2 ⟨rfl, hb2⟩
    have HB2 := Lib.hid (HB1.out.trans (hb2.mono HB1.out.size))
    clear hb2 HAL
    go_wp2
    go_ret
    exact ⟨rfl, HB2.out⟩
  | true =>
    have HVV := Lib.hid hv
    clear hv
    have x0 := HBB1.out.cell 0 (by simp)
    simp only [List.getElem_cons_zero] at x0
    have hmx : xs.length ≤ 9223372036854775807 := hm
    by_cases h30 : 30 < xs.length
    · have d30 : decide (30 < (xs.length : Int)) = true := decide_eq_true (by omega)
      clear h30
      have HAL := Lib.hid (alive_calls w1 (HT.out.ext HB1.out))
      go_wp2_with fail
      refine HAL.out.mono ?_; rintro e w2 ⟨rfl, hb2⟩
      have HB2 := Lib.hid (HB1.out.trans (hb2.mono HB1.out.size))
      clear hb2 HAL
      go_wp2
      go_ret
      exact ⟨rfl, HB2.out⟩
    · have d30 : decide (30 < (xs.length : Int)) = false := decide_eq_false (by omega)
      have hlx : xs.length ≤ 1000 := by omega
      have HX1 := Lib.hid (HX.out.ext HB1.out)
      have hxl := Blk.lt HBB1.out
      clear h30 hmx
      have k0 := HBA1.out.cell 0 (by simp)
      have k1 := HBA1.out.cell 1 (by simp)
      have k2 := HBA1.out.cell 2 (by simp)
      have x1 := HBB1.out.cell 1 (by simp)
      simp only [List.getElem_cons_zero, List.getElem_cons_succ, List.map_cons, List.map_nil] at k0 k1 k2 x1
      have HFL := Lib.hid (feasibleL_calls A B C X ca cb cc cx a b c xs d w1 (HP.out.ext HB1.out) HX1.out hm)
      go_wp2_with fail
      refine HFL.out.mono ?_; rintro e w2 ⟨rfl, hb2⟩
      clear HFL hxl k0 k1 k2 x0 x1
      have HB2 := Lib.hid (HB1.out.trans (hb2.mono HB1.out.size))
      have HBA2 := Lib.hid (HBA1.out.ext hb2)
      have HBB2 := Lib.hid (HBB1.out.ext hb2)
      clear hb2 HB1 HBA1 HBB1
      cases hfe : feasS a b c xs d with
      | false =>
        clear hfe
        have HAL := Lib.hid (alive_calls w2 (HT.out.ext HB2.out))
        go_wp2_with fail
        refine HAL.out.mono ?_; rintro e w3 ⟨rfl, hb3⟩
        have HB3 := Lib.hid (HB2.out.trans (hb3.mono HB2.out.size))
        clear hb3 HAL
        go_wp2
        go_ret
        exact ⟨rfl, HB3.out⟩
      | true =>
        have HFE := Lib.hid hfe
        clear hfe
        have HM := Lib.hid (minimum_calls A B C ca cb cc a b c w2 (HP.out.ext HB2.out) (HT.out.ext HB2.out))
        have k0 := HBA2.out.cell 0 (by simp)
        have k1 := HBA2.out.cell 1 (by simp)
        have k2 := HBA2.out.cell 2 (by simp)
        simp only [List.getElem_cons_zero, List.getElem_cons_succ, List.map_cons, List.map_nil] at k0 k1 k2
        go_wp2_with fail
        refine HM.out.mono ?_; rintro e w3 ⟨hpost, hb3⟩
        clear HM k0 k1 k2
        rcases min_feas hpost HFE.out with ⟨z, -, rfl⟩ | ⟨x, y, mp, ms, dm, hf, hpt, hI, rfl⟩
        · clear hpost
          have HB3 := Lib.hid (HB2.out.trans (hb3.mono HB2.out.size))
          have HBA3 := Lib.hid (HBA2.out.ext hb3)
          have HBB3 := Lib.hid (HBB2.out.ext hb3)
          clear hb3 HB2 HBA2 HBB2
          obtain ⟨w4, hw4⟩ : ∃ W, w3.alloc (.cells #[.slice none 0 0, .int .i64 0] 29 (0, 0)) = W := ⟨_, rfl⟩
          have hb4 : Below w3.heap.size w3 w4 := by rw [← hw4]; exact (Below.refl _ _).alloc (Nat.le_refl _) _
          have HBQ : Hid (Blk w4 w3.heap.size [.slice none 0 0, .int .i64 0] 29) := Lib.hid (by rw [← hw4]; exact Blk.new _ _ _)
          have HB4 := Lib.hid (HB3.out.trans (hb4.mono HB3.out.size))
          have HBA4 := Lib.hid (HBA3.out.ext hb4)
          clear hb4 HB3 HBA3
          have HW4 := Lib.hid hw4
          clear hw4
          have HAL := Lib.hid (alive_calls w4 (HT.out.ext HB4.out))
          go_wp2_with fail
          rw [HW4.out]
          refine HAL.out.mono ?_; rintro e w5 ⟨rfl, hb5⟩
          have HB5 := Lib.hid (HB4.out.trans (hb5.mono HB4.out.size))
          clear hb5 HAL
          go_wp2
          go_ret
          exact ⟨rfl, HB5.out⟩
        · clear hpost
          obtain ⟨hpr, hpo⟩ := feasS_parts HFE.out
          have HPR := Lib.hid hpr; have HPO := Lib.hid hpo; have HF := Lib.hid hf; have HPT := Lib.hid hpt; have HI := Lib.hid hI
          have hml : ms.length = c.length := hpt.len
          have hxl : xs.length = c.length := (pointOk_parts hpo).1
          have hc30 : c.length ≤ 6 := (progOk_parts hpr).1.2
          have HML := Lib.hid hml; have HXL := Lib.hid hxl; have HC6 := Lib.hid hc30
          clear hpr hpo hf hpt hI hml hxl hc30
          have HB3 := Lib.hid (HB2.out.trans (hb3.mono HB2.out.size))
          have HBA3 := Lib.hid (HBA2.out.ext hb3)
          have HBB3 := Lib.hid (HBB2.out.ext hb3)
          clear hb3 HB2 HBA2 HBB2
          obtain ⟨w4, hw4⟩ : ∃ W, w3.alloc (.cells #[.slice (some ⟨mp, 0, none⟩) c.length c.length, .int .i64 dm] 29 (0, 0)) = W := ⟨_, rfl⟩
          have hb4 : Below w3.heap.size w3 w4 := by rw [← hw4]; exact (Below.refl _ _).alloc (Nat.le_refl _) _
          have HQ4 : Hid (Blk w4 w3.heap.size [.slice (some ⟨mp, 0, none⟩) c.length c.length, .int .i64 dm] 29) := Lib.hid (by rw [← hw4]; exact Blk.new _ _ _)
          have HI4 := Lib.hid (Blk.ext HI.out hb4)
          clear HI
          have HB4 := Lib.hid (HB3.out.trans (hb4.mono HB3.out.size))
          have HBA4 := Lib.hid (HBA3.out.ext hb4)
          have HBB4 := Lib.hid (HBB3.out.ext hb4)
          clear hb4 HB3 HBA3 HBB3
          obtain ⟨qp, hqp⟩ : ∃ qp, w3.heap.size = qp := ⟨_, rfl⟩
          rw [hqp] at HQ4
          obtain ⟨v, e, g, g1, g2, g3, g4, g5, hvx⟩ := value_one A B C X ca cb cc cx a b c xs d w4 (HP.out.ext HB4.out) (HX.out.ext HB4.out) hm HPR.out HPO.out
          have HVX := Lib.hid hvx
          have HV1 := Lib.hid g1; have HV2 := Lib.hid g2; have HV3 := Lib.hid g3; have HV4 := Lib.hid g4; have HV5 := Lib.hid g5
          clear hvx g1 g2 g3 g4 g5
          have k0 := HBA4.out.cell 0 (by simp)
          have k1 := HBA4.out.cell 1 (by simp)
          have k2 := HBA4.out.cell 2 (by simp)
          have x0 := HBB4.out.cell 0 (by simp)
          have x1 := HBB4.out.cell 1 (by simp)
          simp only [List.getElem_cons_zero, List.getElem_cons_succ, List.map_cons, List.map_nil] at k0 k1 k2 x0 x1
          rw [← hw4] at k0 k1 k2 x0 x1
          have HW4 := Lib.hid hw4; have HQP := Lib.hid hqp
          clear hw4 hqp
          go_wp2_with fail
          rw [HW4.out]
          rw [HQP.out]
          refine HVX.out.mono ?_; rintro r w5 ⟨vp, rfl, hIV, hb5⟩
          clear k0 k1 k2 x0 x1 HVX HW4 HQP
          have HB5 := Lib.hid (HB4.out.trans (hb5.mono HB4.out.size))
          have HBA5 := Lib.hid (HBA4.out.ext hb5)
          have HBB5 := Lib.hid (HBB4.out.ext hb5)
          have HQ5 := Lib.hid (HQ4.out.ext hb5)
          have HI5 := Lib.hid (HI4.out.ext hb5)
          clear hb5 HB4 HBA4 HBB4 HQ4 HI4
          obtain ⟨w6, hw6⟩ : ∃ W, w5.alloc (.cells #[.slice (some ⟨vp, 0, none⟩) 1 1, .int .i64 e] 29 (0, 0)) = W := ⟨_, rfl⟩
          have hb6 : Below w5.heap.size w5 w6 := by rw [← hw6]; exact (Below.refl _ _).alloc (Nat.le_refl _) _
          have HV6 : Hid (Blk w6 w5.heap.size [.slice (some ⟨vp, 0, none⟩) 1 1, .int .i64 e] 29) := Lib.hid (by rw [← hw6]; exact Blk.new _ _ _)
          have HIV6 := Lib.hid (Blk.ext hIV hb6)
          clear hIV
          have HB6 := Lib.hid (HB5.out.trans (hb6.mono HB5.out.size))
          have HBA6 := Lib.hid (HBA5.out.ext hb6)
          have HBB6 := Lib.hid (HBB5.out.ext hb6)
          have HQ6 := Lib.hid (HQ5.out.ext hb6)
          have HI6 := Lib.hid (HI5.out.ext hb6)
          clear hb6 HB5 HBA5 HBB5 HQ5 HI5
          obtain ⟨vq, hvq⟩ : ∃ vq, w5.heap.size = vq := ⟨_, rfl⟩
          rw [hvq] at HV6
          obtain ⟨m, em, gm, g1, g2, g3, g4, g5, hvm⟩ := value_one A B C (some ⟨mp, 0, none⟩) ca cb cc c.length a b c ms dm w6 (HP.out.ext HB6.out) (IBlk.ints HI6.out) (by rw [HML.out]; have := HC6.out; unfold maxLen; omega) HPR.out HPT.out.ok
          rw [HML.out] at hvm
          have HVM := Lib.hid hvm
          have HM1 := Lib.hid g1; have HM2 := Lib.hid g2; have HM3 := Lib.hid g3; have HM4 := Lib.hid g4; have HM5 := Lib.hid g5
          clear hvm g1 g2 g3 g4 g5
          have k0 := HBA6.out.cell 0 (by simp)
          have k1 := HBA6.out.cell 1 (by simp)
          have k2 := HBA6.out.cell 2 (by simp)
          have x0 := HQ6.out.cell 0 (by simp)
          have x1 := HQ6.out.cell 1 (by simp)
          simp only [List.getElem_cons_zero, List.getElem_cons_succ, List.map_cons, List.map_nil] at k0 k1 k2 x0 x1
          rw [← hw6] at k0 k1 k2 x0 x1
          have HW6 := Lib.hid hw6; have HVQ := Lib.hid hvq
          clear hw6 hvq
          go_wp2_with fail
          rw [HW6.out]
          rw [HVQ.out]
          refine HVM.out.mono ?_; rintro r w7 ⟨np, rfl, hIM, hb7⟩
          clear k0 k1 k2 x0 x1 HVM HW6 HVQ
          have HB7 := Lib.hid (HB6.out.trans (hb7.mono HB6.out.size))
          have HBA7 := Lib.hid (HBA6.out.ext hb7)
          have HBB7 := Lib.hid (HBB6.out.ext hb7)
          have HQ7 := Lib.hid (HQ6.out.ext hb7)
          have HI7 := Lib.hid (HI6.out.ext hb7)
          have HV7 := Lib.hid (HV6.out.ext hb7)
          have HIV7 := Lib.hid (HIV6.out.ext hb7)
          clear hb7 HB6 HBA6 HBB6 HQ6 HI6 HV6 HIV6
          obtain ⟨w8, hw8⟩ : ∃ W, w7.alloc (.cells #[.slice (some ⟨np, 0, none⟩) 1 1, .int .i64 em] 29 (0, 0)) = W := ⟨_, rfl⟩
          have hb8 : Below w7.heap.size w7 w8 := by rw [← hw8]; exact (Below.refl _ _).alloc (Nat.le_refl _) _
          have HN8 : Hid (Blk w8 w7.heap.size [.slice (some ⟨np, 0, none⟩) 1 1, .int .i64 em] 29) := Lib.hid (by rw [← hw8]; exact Blk.new _ _ _)
          have HIM8 := Lib.hid (Blk.ext hIM hb8)
          clear hIM
          have HB8 := Lib.hid (HB7.out.trans (hb8.mono HB7.out.size))
          have HBA8 := Lib.hid (HBA7.out.ext hb8)
          have HBB8 := Lib.hid (HBB7.out.ext hb8)
          have HQ8 := Lib.hid (HQ7.out.ext hb8)
          have HI8 := Lib.hid (HI7.out.ext hb8)
          have HV8 := Lib.hid (HV7.out.ext hb8)
          have HIV8 := Lib.hid (HIV7.out.ext hb8)
          clear hb8 HB7 HBA7 HBB7 HQ7 HI7 HV7 HIV7
          obtain ⟨nq, hnq⟩ : ∃ nq, w7.heap.size = nq := ⟨_, rfl⟩
          rw [hnq] at HN8
          have hle := found_cost HFE.out HF.out HPT.out
          have hlx := found_lex HFE.out HF.out HPT.out
          rw [HV2.out, HM2.out] at hle hlx
          have hu1 := val_cmp (v := m) (e := em) (g := gm) (v' := v) (e' := e) (g' := g) HM1.out HV1.out
          have hu2 := val_cmp (v := v) (e := e) (g := g) (v' := m) (e' := em) (g' := gm) HV1.out HM1.out
          rw [← HV3.out, ← HM3.out] at hu1 hu2
          have hnx : ((c.length : Int) != (xs.length : Int)) = false := by rw [HXL.out]; simp
          have HU1 := Lib.hid (fun W (hW : Below w8.heap.size w8 W) => under_calls np vp 1 1 m v em e W (HIM8.out.ext hW) (HIV8.out.ext hW) HM4.out HV4.out (by have := HM5.out; omega) (by have := HV5.out; omega))
          have HU2 := Lib.hid (fun W (hW : Below w8.heap.size w8 W) => under_calls vp np 1 1 v m e em W (HIV8.out.ext hW) (HIM8.out.ext hW) HV4.out HM4.out (by have := HV5.out; omega) (by have := HM5.out; omega))
          have k0 := HBA8.out.cell 0 (by simp)
          have k1 := HBA8.out.cell 1 (by simp)
          have k2 := HBA8.out.cell 2 (by simp)
          have x0 := HBB8.out.cell 0 (by simp)
          have x1 := HBB8.out.cell 1 (by simp)
          have y0 := HQ8.out.cell 0 (by simp)
          have y1 := HQ8.out.cell 1 (by simp)
          have v0 := HV8.out.cell 0 (by simp)
          have v1 := HV8.out.cell 1 (by simp)
          have n0 := HN8.out.cell 0 (by simp)
          have n1 := HN8.out.cell 1 (by simp)
          simp only [List.getElem_cons_zero, List.getElem_cons_succ, List.map_cons, List.map_nil] at k0 k1 k2 x0 x1 y0 y1 v0 v1 n0 n1
          rw [← hw8] at k0 k1 k2 x0 x1 y0 y1 v0 v1 n0 n1
          have HW8 := Lib.hid hw8; have HNQ := Lib.hid hnq
          clear hw8 hnq
          by_cases hlt : m * e < v * em
          · have hn2 : ¬ v * em < m * e := by omega
            have h1 := HU1.out w8 (Below.refl _ _)
            rw [decide_eq_true hlt] at h1
            have HU1b := Lib.hid h1
            clear hle hlx hu1 hu2 h1 HU1 hlt
            have HN2 := Lib.hid (decide_eq_false hn2)
            clear hn2
            go_wp2_with fail
            rw [HW8.out]
            rw [HNQ.out]
            refine HU1b.out.mono ?_; rintro r w9 ⟨rfl, hb9⟩
            clear k0 k1 k2 x0 x1 y0 y1 v0 v1 n0 n1
            have h2 := HU2.out w9 hb9
            rw [HN2.out] at h2
            have HU2b := Lib.hid h2
            clear h2 HU2 HU1b
            have HB9 := Lib.hid (HB8.out.trans (hb9.mono HB8.out.size))
            have HBA9 := Lib.hid (HBA8.out.ext hb9)
            have HBB9 := Lib.hid (HBB8.out.ext hb9)
            have HQ9 := Lib.hid (HQ8.out.ext hb9)
            have HV9 := Lib.hid (HV8.out.ext hb9)
            have HN9 := Lib.hid (HN8.out.ext hb9)
            clear hb9 HB8 HBA8 HBB8 HQ8 HV8 HN8
            have v0 := HV9.out.cell 0 (by simp)
            have v1 := HV9.out.cell 1 (by simp)
            have n0 := HN9.out.cell 0 (by simp)
            have n1 := HN9.out.cell 1 (by simp)
            simp only [List.getElem_cons_zero, List.getElem_cons_succ, List.map_cons, List.map_nil] at v0 v1 n0 n1
            go_wp2_with fail
            refine HU2b.out.mono ?_; rintro r w10 ⟨rfl, hb10⟩
            clear HU2b v0 v1 n0 n1
            have HB10 := Lib.hid (HB9.out.trans (hb10.mono HB9.out.size))
            have HBA10 := Lib.hid (HBA9.out.ext hb10)
            clear hb10 HB9 HBA9
            have HAL := Lib.hid (alive_calls w10 (HT.out.ext HB10.out))
            go_wp2_with fail
            refine HAL.out.mono ?_; rintro e w11 ⟨rfl, hb11⟩
            have HB11 := Lib.hid (HB10.out.trans (hb11.mono HB10.out.size))
            clear hb11 HAL
            go_wp2
            go_ret
            exact ⟨rfl, HB11.out⟩
          · have hn2 : ¬ v * em < m * e := fun h => by have := hu2.1 h; omega
            have heq := hlx (by have := fun h => hlt (hu1.2 h); omega)
            have HEQ := Lib.hid heq
            have h1 := HU1.out w8 (Below.refl _ _)
            rw [decide_eq_false hlt] at h1
            have HU1b := Lib.hid h1
            clear hle hlx hu1 hu2 h1 HU1 hlt heq
            have HN2 := Lib.hid (decide_eq_false hn2)
            clear hn2
            go_wp2_with fail
            rw [HW8.out]
            rw [HNQ.out]
            refine HU1b.out.mono ?_; rintro r w9 ⟨rfl, hb9⟩
            clear k0 k1 k2 x0 x1 y0 y1 v0 v1 n0 n1
            have h2 := HU2.out w9 hb9
            rw [HN2.out] at h2
            have HU2b := Lib.hid h2
            clear h2 HU2 HU1b
            have HB9 := Lib.hid (HB8.out.trans (hb9.mono HB8.out.size))
            have HBA9 := Lib.hid (HBA8.out.ext hb9)
            have HBB9 := Lib.hid (HBB8.out.ext hb9)
            have HQ9 := Lib.hid (HQ8.out.ext hb9)
            have HV9 := Lib.hid (HV8.out.ext hb9)
            have HN9 := Lib.hid (HN8.out.ext hb9)
            have HI9 := Lib.hid (HI8.out.ext hb9)
            clear hb9 HB8 HBA8 HBB8 HQ8 HV8 HN8 HI8
            have v0 := HV9.out.cell 0 (by simp)
            have v1 := HV9.out.cell 1 (by simp)
            have n0 := HN9.out.cell 0 (by simp)
            have n1 := HN9.out.cell 1 (by simp)
            simp only [List.getElem_cons_zero, List.getElem_cons_succ, List.map_cons, List.map_nil] at v0 v1 n0 n1
            go_wp2_with fail
            refine HU2b.out.mono ?_; rintro r w10 ⟨rfl, hb10⟩
            clear HU2b v0 v1 n0 n1
            have HB10 := Lib.hid (HB9.out.trans (hb10.mono HB9.out.size))
            have HBA10 := Lib.hid (HBA9.out.ext hb10)
            have HBB10 := Lib.hid (HBB9.out.ext hb10)
            have HQ10 := Lib.hid (HQ9.out.ext hb10)
            have HI10 := Lib.hid (HI9.out.ext hb10)
            clear hb10 HB9 HBA9 HBB9 HQ9 HI9
            clear HV9 HN9 hnx
            go_wp2_with fail
            go_loopw [11] (fun ti wr => ∃ (k : Nat), k ≤ xs.length ∧ ti = .int .i64 k ∧ Hid (∀ j, j < k → nth xs j * dm = nth ms j * d) ∧ Hid (Below w10.heap.size w10 wr)) (fun ti _ => xs.length - (intOf ti).toNat)
            case atStart => exact ⟨0, Nat.zero_le _, rfl, Lib.hid (fun k hk => by omega), Lib.hid (Below.refl _ _)⟩
            case round =>
              obtain ⟨k, hk, rfl, hD, hbe⟩ := hrel
              have hBB := Lib.hid (HBB10.out.ext hbe.out)
              have hQQ := Lib.hid (HQ10.out.ext hbe.out)
              have x0 := hBB.out.cell 0 (by simp)
              have x1 := hBB.out.cell 1 (by simp)
              have y0 := hQQ.out.cell 0 (by simp)
              have y1 := hQQ.out.cell 1 (by simp)
              simp only [List.getElem_cons_zero, List.getElem_cons_succ, List.map_cons, List.map_nil] at x0 x1 y0 y1
              by_cases hlt : k < xs.length
              · have hk1 : (k : Int) < xs.length := by omega
                have hk2 : (k : Int) < c.length := by rw [← HXL.out]; exact hk1
                obtain ⟨b1, o1, rfl, c1⟩ := (HX.out.ext (HB10.out.trans (hbe.out.mono HB10.out.size))) k hlt
                have c2 := Blk.cell (HI10.out.ext hbe.out) k (by simp; rw [HML.out, ← HXL.out]; exact hlt)
                rw [List.getElem_map, ← nth_lt (by rw [HML.out, ← HXL.out]; exact hlt)] at c2
                have hxb := listOk_nth (pointOk_parts HPO.out).2.2.2 hlt
                have hmb := HPT.out.bd k (by rw [← HXL.out]; exact hlt)
                have hdb := (pointOk_parts HPO.out).2.2.1
                have hdb1 := (pointOk_parts HPO.out).2.1
                have hmd := HPT.out.d2
                have hmd1 := HPT.out.d1
                have hnext : nth xs k * dm = nth ms k * d ∨ nth ms k * d < nth xs k * dm := by
                  rcases HEQ.out with h | ⟨i, hi, h1, h2⟩
                  · exact .inl (h k (by rw [← HXL.out]; exact hlt))
                  · rcases Nat.lt_trichotomy k i with h3 | h3 | h3
                    · exact .inl (h1 k h3)
                    · subst h3; exact .inr h2
                    · have := hD.out i h3; omega
                obtain ⟨xk, hxk⟩ : ∃ x, nth xs k = x := ⟨_, rfl⟩
                obtain ⟨mk, hmk⟩ : ∃ x, nth ms k = x := ⟨_, rfl⟩
                rw [hxk] at c1 hxb hnext
                rw [hmk] at c2 hmb hnext
                have px : -9223372036854775808 ≤ xk ∧ xk ≤ 9223372036854775807 := by omega
                have pm : -9223372036854775808 ≤ mk ∧ mk ≤ 9223372036854775807 := by omega
                have pd : -9223372036854775808 ≤ d ∧ d ≤ 9223372036854775807 := by omega
                have pe : -9223372036854775808 ≤ dm ∧ dm ≤ 9223372036854775807 := by omega
                have HOP := Lib.hid (fun W => rOf_calls xk W px); have HOQ := Lib.hid (fun W => rOf_calls mk W pm); have HOD := Lib.hid (fun W => rOf_calls d W pd); have HOE := Lib.hid (fun W => rOf_calls dm W pe)
                have HTP := Lib.hid (fun v1 v2 W (k1 : RB W v1 xk) (k2 : RB W v2 dm) => rTimes_calls v1 v2 xk dm W k1 k2 (few_i64 px) (few_i64 pe))
                have HTQ := Lib.hid (fun v1 v2 W (k1 : RB W v1 mk) (k2 : RB W v2 d) => rTimes_calls v1 v2 mk d W k1 k2 (few_i64 pm) (few_i64 pd))
                have hcm := fun v1 v2 W (k1 : RB W v1 (xk * dm)) (k2 : RB W v2 (mk * d)) => rCompare_calls v1 v2 (xk * dm) (mk * d) W k1 k2 (few_mul px pe) (few_mul pm pd)
                obtain ⟨s, hs⟩ : ∃ s, sgnI (xk * dm) (mk * d) = s := ⟨_, rfl⟩
                rw [hs] at hcm
                have hsn : (xk * dm = mk * d ∧ s = 0) ∨ s = 1 := by
                  rcases hnext with h | h
                  · exact .inl ⟨h, by rw [← hs, sgnI_eq h]⟩
                  · exact .inr (by rw [← hs, sgnI_gt h])
                have HCM := Lib.hid hcm; have HSN := Lib.hid hsn; have HXK := Lib.hid hxk; have HMK := Lib.hid hmk
                clear hcm hsn hs hnext hxk hmk px pm pd pe hxb hmb hdb hdb1 hmd hmd1
                go_wp2_with fail
                refine wp_region_keys (w0 := wr) 21 [102, 103, 104, 105, 106, 107, 108, 109, 110, 111, 112, 113, 114, 115, 116, 117, 118, 119, 120, 121, 122]
                  [leafS 102 (.pointer (some ⟨xp, 0, none⟩)), leafS 103 (.slice (some ⟨b1, o1, none⟩) xs.length cx), leafS 104 (.int .i64 k), leafS 105 (.pointer (some ⟨b1, o1 + k, none⟩)), leafS 106 (.int .i64 xk), leaf1 107 (fun v w => RB w v xk), leafS 108 (.pointer (some ⟨qp, 1, none⟩)), leafS 109 (.int .i64 dm), leaf1 110 (fun v w => RB w v dm), leaf1 111 (fun v w => RB w v (xk * dm)), leafS 112 (.pointer (some ⟨qp, 0, none⟩)), leafS 113 (.slice (some ⟨mp, 0, none⟩) c.length c.length), leafS 114 (.int .i64 k), leafS 115 (.pointer (some ⟨mp, k, none⟩)), leafS 116 (.int .i64 mk), leaf1 117 (fun v w => RB w v mk), leafS 118 (.pointer (some ⟨xp, 1, none⟩)), leafS 119 (.int .i64 d), leaf1 120 (fun v w => RB w v d), leaf1 121 (fun v w => RB w v (mk * d)), leafS 122 (.int .i64 s)]
                  [] [none, none, none, none, none, none, none, none, none, none, none, none, none, none, none, none, none, none, none, none, none] NoBlk (by kernel_rfl) (by kernel_rfl) (by kernel_rfl) rfl (F := ?cFl15) ?l15c1 ?l15c2 ?l15c3 ?l15c4
                case l15c1 =>
                  intro x
                  simp only [fullF, Act.put, List.setIfInBounds_toArray, List.set_cons_zero, List.set_cons_succ]
                  rfl
                case l15c2 =>
                  exact ⟨keeps_const _ _ _ _ _ _ _, keeps_const _ _ _ _ _ _ _, keeps_const _ _ _ _ _ _ _, keeps_const _ _ _ _ _ _ _, keeps_const _ _ _ _ _ _ _, keeps_calm (calm_rb xk) _ _ _ _ _, keeps_const _ _ _ _ _ _ _, keeps_const _ _ _ _ _ _ _, keeps_calm (calm_rb dm) _ _ _ _ _, keeps_calm (calm_rb (xk * dm)) _ _ _ _ _, keeps_const _ _ _ _ _ _ _, keeps_const _ _ _ _ _ _ _, keeps_const _ _ _ _ _ _ _, keeps_const _ _ _ _ _ _ _, keeps_const _ _ _ _ _ _ _, keeps_calm (calm_rb mk) _ _ _ _ _, keeps_const _ _ _ _ _ _ _, keeps_const _ _ _ _ _ _ _, keeps_calm (calm_rb d) _ _ _ _ _, keeps_calm (calm_rb (mk * d)) _ _ _ _ _, keeps_const _ _ _ _ _ _ _, trivial⟩
                case l15c3 =>
                  refine ⟨?_, ?_, ?_, ?_, ?_, ?_, ?_, ?_, ?_, ?_, ?_, ?_, ?_, ?_, ?_, ?_, ?_, ?_, ?_, ?_, ?_, trivial⟩
                  all_goals
                    intro xx wq HE hd K hK
                    have hc := (bcell HE).1
                    have x0' := (hc _ _ (cell_lt x0)).trans x0
                    have x1' := (hc _ _ (cell_lt x1)).trans x1
                    have y0' := (hc _ _ (cell_lt y0)).trans y0
                    have y1' := (hc _ _ (cell_lt y1)).trans y1
                    have c1' := (hc _ _ (cell_lt c1)).trans c1
                    have c2' := (hc _ _ (cell_lt c2)).trans c2
                    try have e0 : xx 102 = _ := hd 0 _ (by decide) rfl
                    try have e1 : xx 103 = _ := hd 1 _ (by decide) rfl
                    try have e2 : xx 104 = _ := hd 2 _ (by decide) rfl
                    try have e3 : xx 105 = _ := hd 3 _ (by decide) rfl
                    try have e4 : xx 106 = _ := hd 4 _ (by decide) rfl
                    try have g5 := hd 5 _ (by decide) rfl
                    try have e6 : xx 108 = _ := hd 6 _ (by decide) rfl
                    try have e7 : xx 109 = _ := hd 7 _ (by decide) rfl
                    try have g8 := hd 8 _ (by decide) rfl
                    try have g9 := hd 9 _ (by decide) rfl
                    try have e10 : xx 112 = _ := hd 10 _ (by decide) rfl
                    try have e11 : xx 113 = _ := hd 11 _ (by decide) rfl
                    try have e12 : xx 114 = _ := hd 12 _ (by decide) rfl
                    try have e13 : xx 115 = _ := hd 13 _ (by decide) rfl
                    try have e14 : xx 116 = _ := hd 14 _ (by decide) rfl
                    try have g15 := hd 15 _ (by decide) rfl
                    try have e16 : xx 118 = _ := hd 16 _ (by decide) rfl
                    try have e17 : xx 119 = _ := hd 17 _ (by decide) rfl
                    try have g18 := hd 18 _ (by decide) rfl
                    try have g19 := hd 19 _ (by decide) rfl
                    try have e20 : xx 122 = _ := hd 20 _ (by decide) rfl
                    have HE := Lib.hid HE
                    have HC := Lib.hid hc
                    clear hd hc
                    all_goals go_simp
                    try (refine hK _ _ _ (mv_const _ rfl) ?_; dsimp only [Act.put]; first | done | rfl | (simp [*]; done))
                  · refine (HOP.out wq).mono ?_
                    rintro e w3 ⟨v, rfl, h1, h2⟩
                    exact hK _ _ _ (mv_plain h2 h1.rb rfl) (by first | (dsimp only [Act.put]; done) | (dsimp only [Act.put]; first | rfl | (simp [*]; done) | (simp [*, ptr]; done)))
                  · refine (HOE.out wq).mono ?_
                    rintro e w3 ⟨v, rfl, h1, h2⟩
                    exact hK _ _ _ (mv_plain h2 h1.rb rfl) (by first | (dsimp only [Act.put]; done) | (dsimp only [Act.put]; first | rfl | (simp [*]; done) | (simp [*, ptr]; done)))
                  · refine (HTP.out _ _ wq g5 g8).mono ?_
                    rintro e w3 ⟨v, rfl, h1, h2⟩
                    exact hK _ _ _ (mv_plain h2 h1.rb rfl) (by first | (dsimp only [Act.put]; done) | (dsimp only [Act.put]; first | rfl | (simp [*]; done) | (simp [*, ptr]; done)))
                  · refine (HOQ.out wq).mono ?_
                    rintro e w3 ⟨v, rfl, h1, h2⟩
                    exact hK _ _ _ (mv_plain h2 h1.rb rfl) (by first | (dsimp only [Act.put]; done) | (dsimp only [Act.put]; first | rfl | (simp [*]; done) | (simp [*, ptr]; done)))
                  · refine (HOD.out wq).mono ?_
                    rintro e w3 ⟨v, rfl, h1, h2⟩
                    exact hK _ _ _ (mv_plain h2 h1.rb rfl) (by first | (dsimp only [Act.put]; done) | (dsimp only [Act.put]; first | rfl | (simp [*]; done) | (simp [*, ptr]; done)))
                  · refine (HTQ.out _ _ wq g15 g18).mono ?_
                    rintro e w3 ⟨v, rfl, h1, h2⟩
                    exact hK _ _ _ (mv_plain h2 h1.rb rfl) (by first | (dsimp only [Act.put]; done) | (dsimp only [Act.put]; first | rfl | (simp [*]; done) | (simp [*, ptr]; done)))
                  · refine (HCM.out _ _ wq g9 g19).mono ?_
                    rintro e w3 ⟨rfl, h2⟩
                    exact hK _ _ _ (mv_plain h2 rfl rfl) (by first | (dsimp only [Act.put]; done) | (dsimp only [Act.put]; first | rfl | (simp [*]; done) | (simp [*, ptr]; done)))
                case l15c4 =>
                  intro xx wz hE hG hA
                  have e0 : xx 102 = _ := hG 0 _ rfl
                  have e1 : xx 103 = _ := hG 1 _ rfl
                  have e2 : xx 104 = _ := hG 2 _ rfl
                  have e3 : xx 105 = _ := hG 3 _ rfl
                  have e4 : xx 106 = _ := hG 4 _ rfl
                  have g5 := hG 5 _ rfl
                  have e6 : xx 108 = _ := hG 6 _ rfl
                  have e7 : xx 109 = _ := hG 7 _ rfl
                  have g8 := hG 8 _ rfl
                  have g9 := hG 9 _ rfl
                  have e10 : xx 112 = _ := hG 10 _ rfl
                  have e11 : xx 113 = _ := hG 11 _ rfl
                  have e12 : xx 114 = _ := hG 12 _ rfl
                  have e13 : xx 115 = _ := hG 13 _ rfl
                  have e14 : xx 116 = _ := hG 14 _ rfl
                  have g15 := hG 15 _ rfl
                  have e16 : xx 118 = _ := hG 16 _ rfl
                  have e17 : xx 119 = _ := hG 17 _ rfl
                  have g18 := hG 18 _ rfl
                  have g19 := hG 19 _ rfl
                  have e20 : xx 122 = _ := hG 20 _ rfl
                  have HE := Lib.hid (hbe.out.trans (hE.mono hbe.out.size))
                  clear hG hA hE
                  (refine tail_one (i := 21) (by kernel_rfl) rfl ?_; intro K hK; go_simp; refine hK _ _ ?_; clear hK)
                  refine wpAny_done (by kernel_rfl) ?_ _
                  rcases HSN.out with ⟨h1, rfl⟩ | rfl
                  · have HD2 : Hid (∀ j, j < k + 1 → nth xs j * dm = nth ms j * d) := Lib.hid (fun j hj => by
                      by_cases e : j = k
                      · subst e; rw [HXK.out, HMK.out]; exact h1
                      · exact hD.out j (by omega))
                    clear h1 hD
                    go_wp2
                    go_roundw
                    case rel => exact ⟨k + 1, by omega, by go_num, HD2, HE⟩
                    case measure => simp [intOf]; omega
                  · have HBz := Lib.hid (HB10.out.trans (HE.out.mono HB10.out.size))
                    have HAL := Lib.hid (alive_calls wz (HT.out.ext HBz.out))
                    go_wp2_with fail
                    refine HAL.out.mono ?_; rintro e w11 ⟨rfl, hb11⟩
                    have HB11 := Lib.hid (HBz.out.trans (hb11.mono HBz.out.size))
                    clear hb11 HAL
                    go_wp2
                    go_ret
                    exact ⟨rfl, HB11.out⟩
              · obtain rfl : k = xs.length := by omega
                have HBz := Lib.hid (HB10.out.trans (hbe.out.mono HB10.out.size))
                have HAL := Lib.hid (alive_calls wr (HT.out.ext HBz.out))
                go_wp2_with fail
                refine HAL.out.mono ?_; rintro e w11 ⟨rfl, hb11⟩
                have HB11 := Lib.hid (HBz.out.trans (hb11.mono HBz.out.size))
                clear hb11 HAL
                go_wp2
                go_ret
                exact ⟨rfl, HB11.out⟩
end Go.Proofs.YtkljafmdbajfeaaGreatDoor
