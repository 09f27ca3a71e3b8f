/- The row LinearWeak. -/
import Derived.Test.YtkljafmdbajfeaaGreatDoorWeA47
namespace Go.Proofs.YtkljafmdbajfeaaGreatDoor
open Go.RowKit
open Lp (EndFound EndEmpty EndFree)
set_option linter.unusedVariables false
set_option linter.unusedSimpArgs false
theorem ray_free {a : List (List Int)} {b c xs : List Int} {d : Int} {w w' : World} {e : Ending} (h : OfPost a b c 2 plansO true w w' e) (hf : feasS a b c xs d = true) {z0 : Nat → Rat} (hz : EndFree (qA a) (qB b) (qB c) c.length a.length z0) :
  ∃ z g ds dm, EndFree (qA a) (qB b) (qB c) c.length a.length z ∧ PtOf ds dm c.length z ∧ IBlk w' g ds ∧ e = .returned (.tuple #[.agg #[.slice (some ⟨g, 0, none⟩) c.length c.length, .int .i64 dm], .int .i64 0]) := by
 rcases h with ⟨h1, -⟩ | ⟨-, s, x, y, hs, hq, h5⟩
 ·rw [(feasS_parts hf).1] at h1; cases h1
 ·rcases hq with ⟨rfl, h2, -⟩ | ⟨rfl, h2, -⟩ | ⟨rfl, h2, -⟩
  ·exact (found_free h2 hz).elim
  ·exact (empty_feas h2 (feasS_feas hf)).elim
  ·rcases h5 with ⟨h5, -⟩ | ⟨-, g, ms, dm, h6, -, h8, h9⟩
   ·exact absurd rfl h5
   ·exact ⟨x, g, ms, dm, h2, h9, h8, h6⟩
theorem lone_cellI (k : IntKind) (n : Int) : ∀ u ∈ [Value.int k n], u.oneCell' = true := fun u h => by
 simp only [List.mem_singleton] at h; subst h; rfl
theorem own_setI {w : World} {base n size : Nat} {e : TypeId} {v : Value} {xs : List Value} (h : w.ownsRow base e size v n xs) (a : Addr) (x : Value) (ha : a.block < base) : (w.setCell a x).ownsRow base e size v n xs :=
 ⟨h.1, h.2.imp id fun ⟨g, cap, cur, h1, h2, h3, r⟩ => ⟨g, cap, cur, h1, h2, by rw [Below.heap_setCell _ _ _ _ (by omega)]; exact h3, r⟩⟩
theorem BlkI_grown {w w' : World} {b : Nat} {vs : List Value} {T : TypeId} {row : Option Nat} (h : Blk w b vs T) (hg : w.grownBy w' row) (hne : some b ≠ row) : Blk w' b vs T := by
 have := h.lt
 unfold Blk at *; rw [hg.block b this hne]; exact h
theorem moved_take {xs ds : List Int} {d e k : Int} {n j : Nat} (h : j < n) : ((moved xs ds d e k n).take (j + 1)).map (Value.int .i64) = ((moved xs ds d e k n).take j).map (Value.int .i64) ++ [.int .i64 (nth xs j * e + k * d * nth ds j)] := by
 rw [take_nth (by rw [moved_len]; exact h), moved_nth h, List.map_append]; rfl
theorem tame_all {m : Int} {xs : List Int} (h : listOk m xs = true) {n : Nat} (hn : xs.length = n) : ∀ j, j < n → -m ≤ nth xs j ∧ nth xs j ≤ m := fun j hj => listOk_nth h (by omega)
set_option maxRecDepth 100000 in
set_option maxHeartbeats 8000000 in
theorem weak_row (A B C X Y : Option Addr) (ca cb cc cx cy : Nat) (a : List (List Int)) (b c xs ys : List Int) (d ey st : Int) (w : World) (h : Prog3 w A B C a b c) (hX : Ints w X xs) (hm : xs.length ≤ maxLen) (hY : Ints w Y ys) (hmy : ys.length ≤ maxLen) (hst : (Lit.int .u8 st).wf = true) (hT : TabOk 0 costsO w) (hT2 : TabOk 1 plansO w) :
  Calls Tryz.prog 9 #[.agg #[.slice A a.length ca, .slice B b.length cb, .slice C c.length cc], .agg #[.slice X xs.length cx, .int .i64 d], .agg #[.slice Y ys.length cy, .int .i64 ey], .int .u8 st] w fun e w' => e = .returned (.bool true) ∧ Below w.heap.size w w' := by
 obtain ⟨ua, hua⟩ : ∃ ua, w.alloc (.cells #[.slice A a.length ca, .slice B b.length cb, .slice C c.length cc] 25 (0, 0)) = ua := ⟨_, rfl⟩
 obtain ⟨ub, hub⟩ : ∃ ub, ua.alloc (.cells #[.slice X xs.length cx, .int .i64 d] 29 (0, 0)) = ub := ⟨_, rfl⟩
 obtain ⟨uc, huc⟩ : ∃ uc, ub.alloc (.cells #[.slice Y ys.length cy, .int .i64 ey] 29 (0, 0)) = uc := ⟨_, rfl⟩
 have hlc := h.lc
 have hst2 : 0 ≤ st ∧ st ≤ 255 := by
  have h1 : IntKind.u8.min ≤ st ∧ st ≤ IntKind.u8.max := by
   have := hst
   simp only [Lit.wf, Bool.and_eq_true, decide_eq_true_eq] at this
   exact this
  exact h1
 have sa : ua.heap.size = w.heap.size + 1 := by rw [← hua]; simp
 have sb : ub.heap.size = w.heap.size + 1 + 1 := by rw [← hub, ← sa]; simp
 have ba : Blk ua w.heap.size [.slice A a.length ca, .slice B b.length cb, .slice C c.length cc] 25 := by rw [← hua]; exact Blk.new _ _ _
 have bb : Blk ub (w.heap.size + 1) [.slice X xs.length cx, .int .i64 d] 29 := by rw [← hub, ← sa]; exact Blk.new _ _ _
 have bc : Blk uc (w.heap.size + 1 + 1) [.slice Y ys.length cy, .int .i64 ey] 29 := by rw [← huc, ← sb]; exact Blk.new _ _ _
 have ea : Below w.heap.size w ua := by rw [← hua]; exact (Below.refl _ _).alloc (Nat.le_refl _) _
 have eb : Below ua.heap.size ua ub := by rw [← hub]; exact (Below.refl _ _).alloc (Nat.le_refl _) _
 have ec : Below ub.heap.size ub uc := by rw [← huc]; exact (Below.refl _ _).alloc (Nat.le_refl _) _
 have e2 : Below w.heap.size w uc := (ea.trans (eb.mono (by omega))).trans (ec.mono (by omega))
 have HBA := Lib.hid ((ba.ext eb).ext ec); have HBB := Lib.hid (bb.ext ec); have HBC := Lib.hid bc; have HE2 := Lib.hid e2
 have HT := Lib.hid hT; have HT2 := Lib.hid hT2; have HP := Lib.hid h; have HX := Lib.hid hX; have HY := Lib.hid hY; have HST := Lib.hid hst2
 have HV := Lib.hid (lightL_calls A B C ca cb cc a b c uc (h.ext e2))
 have p0 := ((ba.ext eb).ext ec).cell 0 (by simp)
 have p1 := ((ba.ext eb).ext ec).cell 1 (by simp)
 have p2 := ((ba.ext eb).ext ec).cell 2 (by simp)
 simp only [List.getElem_cons_zero, List.getElem_cons_succ] at p0 p1 p2
 rw [← huc, ← hub, ← hua] at p0 p1 p2
 have HWA := Lib.hid hua; have HWB := Lib.hid hub; have HWC := Lib.hid huc
 clear ba bb bc ea eb ec e2 h hX hY sa sb hua hub huc hT hT2 hst hst2
 go_enter Tryz.func9, Tryz.ntmps9
 go_wp2_with fail
 rw [HWA.out, HWB.out, HWC.out]
 clear p0 p1 p2
 obtain ⟨bp, hbp⟩ : ∃ bp, w.heap.size = bp := ⟨_, rfl⟩
 obtain ⟨xp, hxp⟩ : ∃ xp, w.heap.size + 1 = xp := ⟨_, rfl⟩
 obtain ⟨yp, hyp⟩ : ∃ yp, w.heap.size + 1 + 1 = yp := ⟨_, rfl⟩
 rw [hbp] at HBA
 rw [hyp] at HBC
 rw [hyp]
 rw [hxp] at HBB
 rw [hxp, hbp]
 have HBP := Lib.hid hbp
 clear hbp hxp hyp
 refine HV.out.mono ?_; rintro e w1 ⟨rfl, hb1⟩
 clear HV
 have HB1 := Lib.hid (HE2.out.trans (hb1.mono HE2.out.size))
 have HBA1 := Lib.hid (HBA.out.ext hb1)
 have HBB1 := Lib.hid (HBB.out.ext hb1)
 have HBC1 := Lib.hid (HBC.out.ext hb1)
 clear hb1 HE2 HBA HBB HBC
 cases hv : (fewB a b && decide (c.length ≤ 30)) with
 | false =>
   clear hv
   have HAL := Lib.hid (alive_calls w1 (HT.out.ext HB1.out))
   go_wp2_with fail
   refine HAL.out.mono ?_; rintro e wz ⟨rfl, hbz⟩
   have HBZ := Lib.hid (HB1.out.trans (hbz.mono HB1.out.size))
   clear hbz HAL
   go_wp2
   go_ret
   exact ⟨rfl, HBZ.out⟩
 | true =>
   clear hv
   have x0 := HBB1.out.cell 0 (by simp)
   have y0 := HBC1.out.cell 0 (by simp)
   simp only [List.getElem_cons_zero, List.getElem_cons_succ, List.map_cons, List.map_nil] at x0 y0
   have hmx : xs.length ≤ 9223372036854775807 := hm
   have hmz : ys.length ≤ 9223372036854775807 := hmy
   by_cases h30 : 30 < xs.length
   ·have d30 : decide (30 < (xs.length : Int)) = true := decide_eq_true (by omega)
    clear h30
    have HAL := Lib.hid (alive_calls w1 (HT.out.ext HB1.out))
    go_wp2_with fail
    refine HAL.out.mono ?_; rintro e wz ⟨rfl, hbz⟩
    have HBZ := Lib.hid (HB1.out.trans (hbz.mono HB1.out.size))
    clear hbz HAL
    go_wp2
    go_ret
    exact ⟨rfl, HBZ.out⟩
   ·have d30 : decide (30 < (xs.length : Int)) = false := decide_eq_false (by omega)
    clear h30
    by_cases h31 : 30 < ys.length
    ·have d31 : decide (30 < (ys.length : Int)) = true := decide_eq_true (by omega)
     clear h31
     have HAL := Lib.hid (alive_calls w1 (HT.out.ext HB1.out))
     go_wp2_with fail
     refine HAL.out.mono ?_; rintro e wz ⟨rfl, hbz⟩
     have HBZ := Lib.hid (HB1.out.trans (hbz.mono HB1.out.size))
     clear hbz HAL
     go_wp2
     go_ret
     exact ⟨rfl, HBZ.out⟩
    ·have d31 : decide (30 < (ys.length : Int)) = false := decide_eq_false (by omega)
     clear h31 hmx hmz
     have k0 := HBA1.out.cell 0 (by simp)
     have k1 := HBA1.out.cell 1 (by simp)
     have k2 := HBA1.out.cell 2 (by simp)
     have x1 := HBB1.out.cell 1 (by simp)
     simp only [List.getElem_cons_zero, List.getElem_cons_succ, List.map_cons, List.map_nil] at k0 k1 k2 x1
     have HFL := Lib.hid (feasibleL_calls A B C X ca cb cc cx a b c xs d w1 (HP.out.ext HB1.out) (HX.out.ext HB1.out) hm)
     go_wp2_with fail
     refine HFL.out.mono ?_; rintro e w2 ⟨rfl, hb2⟩
     clear HFL k0 k1 k2 x0 x1 y0
     have HB2 := Lib.hid (HB1.out.trans (hb2.mono HB1.out.size))
     have HBA2 := Lib.hid (HBA1.out.ext hb2)
     have HBB2 := Lib.hid (HBB1.out.ext hb2)
     have HBC2 := Lib.hid (HBC1.out.ext hb2)
     clear hb2 HB1 HBA1 HBB1 HBC1
     cases hfe : feasS a b c xs d with
     | false =>
       clear hfe
       have HAL := Lib.hid (alive_calls w2 (HT.out.ext HB2.out))
       go_wp2_with fail
       refine HAL.out.mono ?_; rintro e wz ⟨rfl, hbz⟩
       have HBZ := Lib.hid (HB2.out.trans (hbz.mono HB2.out.size))
       clear hbz HAL
       go_wp2
       go_ret
       exact ⟨rfl, HBZ.out⟩
     | true =>
       have HFE := Lib.hid hfe
       obtain ⟨hpr, hpo⟩ := feasS_parts hfe
       have HPR := Lib.hid hpr; have HPO := Lib.hid hpo
       have hxl : xs.length = c.length := (pointOk_parts hpo).1
       have hc30 : c.length ≤ 6 := (progOk_parts hpr).1.2
       have HXL := Lib.hid hxl; have HC6 := Lib.hid hc30
       clear hfe hpr hpo hxl hc30
       obtain ⟨v, e, g, g1, g2, g3, g4, g5, hvx⟩ := value_one A B C X ca cb cc cx a b c xs d w2 (HP.out.ext HB2.out) (HX.out.ext HB2.out) hm HPR.out HPO.out
       have HVX := Lib.hid hvx
       have HV1 := Lib.hid g1; have HV2 := Lib.hid g2; have HV3 := Lib.hid g3; have HV4 := Lib.hid g4; have HV5 := Lib.hid g5
       clear hvx g1 g2 g3 g4 g5
       have k0 := HBA2.out.cell 0 (by simp)
       have k1 := HBA2.out.cell 1 (by simp)
       have k2 := HBA2.out.cell 2 (by simp)
       have x0 := HBB2.out.cell 0 (by simp)
       have x1 := HBB2.out.cell 1 (by simp)
       simp only [List.getElem_cons_zero, List.getElem_cons_succ, List.map_cons, List.map_nil] at k0 k1 k2 x0 x1
       go_wp2_with fail
       refine HVX.out.mono ?_; rintro r w3 ⟨vp, rfl, hIV, hb3⟩
       clear k0 k1 k2 x0 x1 HVX
       have HB3 := Lib.hid (HB2.out.trans (hb3.mono HB2.out.size))
       have HBA3 := Lib.hid (HBA2.out.ext hb3)
       have HBB3 := Lib.hid (HBB2.out.ext hb3)
       have HBC3 := Lib.hid (HBC2.out.ext hb3)
       clear hb3 HB2 HBA2 HBB2 HBC2
       obtain ⟨w4, hw4⟩ : ∃ W, w3.alloc (.cells #[.slice (some ⟨vp, 0, none⟩) 1 1, .int .i64 e] 29 (0, 0)) = W := ⟨_, rfl⟩
       have hb4 : Below w3.heap.size w3 w4 := by rw [← hw4]; exact (Below.refl _ _).alloc (Nat.le_refl _) _
       have HV4B : Hid (Blk w4 w3.heap.size [.slice (some ⟨vp, 0, none⟩) 1 1, .int .i64 e] 29) := Lib.hid (by rw [← hw4]; exact Blk.new _ _ _)
       have HIV4 := Lib.hid (Blk.ext hIV hb4)
       clear hIV
       have HB4 := Lib.hid (HB3.out.trans (hb4.mono HB3.out.size))
       have HBA4 := Lib.hid (HBA3.out.ext hb4)
       have HBB4 := Lib.hid (HBB3.out.ext hb4)
       have HBC4 := Lib.hid (HBC3.out.ext hb4)
       clear hb4 HB3 HBA3 HBB3 HBC3
       obtain ⟨vq, hvq⟩ : ∃ vq, w3.heap.size = vq := ⟨_, rfl⟩
       rw [hvq] at HV4B
       have k0 := HBA4.out.cell 0 (by simp)
       have k1 := HBA4.out.cell 1 (by simp)
       have k2 := HBA4.out.cell 2 (by simp)
       have y0 := HBC4.out.cell 0 (by simp)
       have y1 := HBC4.out.cell 1 (by simp)
       have v0 := HV4B.out.cell 0 (by simp)
       have v1 := HV4B.out.cell 1 (by simp)
       simp only [List.getElem_cons_zero, List.getElem_cons_succ, List.map_cons, List.map_nil] at k0 k1 k2 y0 y1 v0 v1
       have hdn := deniesL_calls A B C Y ca cb cc cy a b c ys ey w4 (HP.out.ext HB4.out) (HY.out.ext HB4.out) hmy
       rw [feas_denies HFE.out] at hdn
       have HDN := Lib.hid hdn
       rw [← hw4] at k0 k1 k2 y0 y1 v0 v1
       have HW4 := Lib.hid hw4; have HVQ := Lib.hid hvq
       clear hw4 hvq hdn
       go_wp2_with fail
       rw [HW4.out]
       rw [HVQ.out]
       refine HDN.out.mono ?_; rintro r w5 ⟨rfl, hb5⟩
       clear k0 k1 k2 y0 y1 v0 v1 HDN HW4 HVQ
       have HB5 := Lib.hid (HB4.out.trans (hb5.mono HB4.out.size))
       have HBA5 := Lib.hid (HBA4.out.ext hb5)
       have HBB5 := Lib.hid (HBB4.out.ext hb5)
       have HBC5 := Lib.hid (HBC4.out.ext hb5)
       have HV5B := Lib.hid (HV4B.out.ext hb5)
       have HIV5 := Lib.hid (HIV4.out.ext hb5)
       clear hb5 HB4 HBA4 HBB4 HBC4 HV4B HIV4
       have k0 := HBA5.out.cell 0 (by simp)
       have k1 := HBA5.out.cell 1 (by simp)
       have k2 := HBA5.out.cell 2 (by simp)
       have y0 := HBC5.out.cell 0 (by simp)
       have y1 := HBC5.out.cell 1 (by simp)
       have v0 := HV5B.out.cell 0 (by simp)
       have v1 := HV5B.out.cell 1 (by simp)
       simp only [List.getElem_cons_zero, List.getElem_cons_succ, List.map_cons, List.map_nil] at k0 k1 k2 y0 y1 v0 v1
       have HBO : Hid (∀ W, Below w5.heap.size w5 W → Calls Tryz.prog 51 #[.agg #[.slice A a.length ca, .slice B b.length cb, .slice C c.length cc], .agg #[.slice Y ys.length cy, .int .i64 ey]] W fun e w' => e = .returned (.bool (boundsS a b c ys ey)) ∧ Below W.heap.size W w') := Lib.hid fun W hW => boundsL_calls A B C Y ca cb cc cy a b c ys ey W (HP.out.ext (HB5.out.trans (hW.mono HB5.out.size))) (HY.out.ext (HB5.out.trans (hW.mono HB5.out.size))) hmy
       go_upto_region 8 with (fail)
       go_cut [69] (fun s wx => s = .bool false ∧ Below w5.heap.size w5 wx)
       case first =>
        cases hbo : boundsS a b c ys ey with
        | false =>
          rw [hbo] at HBO
          clear hbo
          refine wp_region_keys (w0 := w5) 11 [59, 60, 61, 62, 63, 64, 65, 66, 67, 68, 69]
           [leafS 59 (.agg #[.slice A a.length ca, .slice B b.length cb, .slice C c.length cc]), leafS 60 (.agg #[.slice Y ys.length cy, .int .i64 ey]), leafS 61 (.bool false), leafS 62 (.bool false), leafS 63 (undef), leafS 64 (undef), leafS 65 (undef), leafS 66 (undef), leafS 67 (undef), leafS 68 (undef), leafS 69 (.bool false)]
           [] [none, none, none, none, none, none, none, none, none, none, none] NoBlk (by kernel_rfl) (by kernel_rfl) (by kernel_rfl) rfl (F := ?cFb8) ?b8c1 ?b8c2 ?b8c3 ?b8c4
          case b8c1 =>
           intro x
           simp only [fullF, Act.put, List.setIfInBounds_toArray, List.set_cons_zero, List.set_cons_succ]
           rfl
          case b8c2 =>
           exact ⟨keeps_const _ _ _ _ _ _ _, keeps_const _ _ _ _ _ _ _, keeps_const _ _ _ _ _ _ _, keeps_const _ _ _ _ _ _ _, keeps_const _ _ _ _ _ _ _, keeps_const _ _ _ _ _ _ _, keeps_const _ _ _ _ _ _ _, keeps_const _ _ _ _ _ _ _, keeps_const _ _ _ _ _ _ _, keeps_const _ _ _ _ _ _ _, keeps_const _ _ _ _ _ _ _, trivial⟩
          case b8c3 =>
           refine ⟨?_, ?_, ?_, ?_, ?_, ?_, ?_, ?_, ?_, ?_, ?_, trivial⟩
           all_goals
            intro xx wq HE hd K hK
            have hc := (bcell HE).1
            have k0' := (hc _ _ (cell_lt k0)).trans k0
            have k1' := (hc _ _ (cell_lt k1)).trans k1
            have k2' := (hc _ _ (cell_lt k2)).trans k2
            have y0' := (hc _ _ (cell_lt y0)).trans y0
            have y1' := (hc _ _ (cell_lt y1)).trans y1
            try have e0 : xx 59 = _ := hd 0 _ (by decide) rfl
            try have e1 : xx 60 = _ := hd 1 _ (by decide) rfl
            try have e2 : xx 61 = _ := hd 2 _ (by decide) rfl
            try have e3 : xx 62 = _ := hd 3 _ (by decide) rfl
            try have e4 : xx 63 = _ := hd 4 _ (by decide) rfl
            try have e5 : xx 64 = _ := hd 5 _ (by decide) rfl
            try have e6 : xx 65 = _ := hd 6 _ (by decide) rfl
            try have e7 : xx 66 = _ := hd 7 _ (by decide) rfl
            try have e8 : xx 67 = _ := hd 8 _ (by decide) rfl
            try have e9 : xx 68 = _ := hd 9 _ (by decide) rfl
            try have e10 : xx 69 = _ := hd 10 _ (by decide) rfl
            have HE := Lib.hid HE
            have HC := Lib.hid hc
            clear hd hc
            all_goals go_simp
            try (refine hK _ _ _ (mv_const _ rfl) ?_; dsimp only [Act.put]; first | done | rfl | (simp [*]; done))
           ·refine (HBO.out wq HE.out).mono ?_
            rintro e w8 ⟨rfl, hb⟩
            exact hK _ _ _ (mv_plain hb rfl rfl) (by first | (dsimp only [Act.put]; done) | (dsimp only [Act.put]; first | rfl | (simp [*]; done) | (simp [*, ptr]; done)))
          case b8c4 =>
           intro xx wz hE hG hA
           have e0 : xx 59 = _ := hG 0 _ rfl
           have e1 : xx 60 = _ := hG 1 _ rfl
           have e2 : xx 61 = _ := hG 2 _ rfl
           have e3 : xx 62 = _ := hG 3 _ rfl
           have e4 : xx 63 = _ := hG 4 _ rfl
           have e5 : xx 64 = _ := hG 5 _ rfl
           have e6 : xx 65 = _ := hG 6 _ rfl
           have e7 : xx 66 = _ := hG 7 _ rfl
           have e8 : xx 67 = _ := hG 8 _ rfl
           have e9 : xx 68 = _ := hG 9 _ rfl
           have e10 : xx 69 = _ := hG 10 _ rfl
           clear hG hA
           refine wpAny_done (by kernel_rfl) ?_ _
           rw [e10]
           go_wp2_with fail
           go_meet
           exact ⟨rfl, hE⟩
        | true =>
          rw [hbo] at HBO
          have hbk := feas_bounds HFE.out hbo
          obtain ⟨o1, o2⟩ := boundsS_parts hbo
          have o3 := (pointOk_parts o2)
          have o4 : ys.length = b.length := by rw [o3.1, (progOk_parts HPR.out).2.2.2.1]
          have hsm : Small b ys := small_of (progOk_parts HPR.out).2.2.2.2.1 o3.2.2.2 (by omega) (by omega) (n := 6) (by have := (progOk_parts HPR.out).2.1; have := (progOk_parts HPR.out).2.2.2.1; omega) (by omega) (by omega)
          have hb6 : b.length ≤ 1000 := by have := (progOk_parts HPR.out).2.1; have := (progOk_parts HPR.out).2.2.2.1; omega
          have hdz := dotZ_bd hsm
          have HPC : Hid (∀ W, Below w5.heap.size w5 W → Calls Tryz.prog 52 #[.slice B b.length cb, .agg #[.slice Y ys.length cy, .int .i64 ey]] W fun r w' => ∃ g, r = .returned (.agg #[.slice (some ⟨g, 0, none⟩) 1 1, .int .i64 ey]) ∧ IBlk w' g [dotZ b ys] ∧ Below W.heap.size W w') := Lib.hid fun W hW => price_calls B Y cb cy b ys ey W (HP.out.ext (HB5.out.trans (hW.mono HB5.out.size))).gb (HY.out.ext (HB5.out.trans (hW.mono HB5.out.size))) o4 hb6 hsm
          have hnu : decide (v * ey < dotZ b ys * e) = false := by
           refine decide_eq_false fun h => ?_
           have h1 := (val_cmp (v := v) (e := e) (g := g) (v' := dotZ b ys) (e' := ey) (g' := 1) HV1.out (by omega)).1 h
           rw [← HV2.out, ← HV3.out, Int.mul_one, Int.mul_one] at h1
           omega
          have HUN : Hid (∀ W q, Below w5.heap.size w5 W → IBlk W q [dotZ b ys] → Calls Tryz.prog 42 #[.agg #[.slice (some ⟨vp, 0, none⟩) 1 1, .int .i64 e], .agg #[.slice (some ⟨q, 0, none⟩) 1 1, .int .i64 ey]] W fun r w' => r = .returned (.bool false) ∧ Below W.heap.size W w') := Lib.hid fun W q hW hq => by
           have := under_calls vp q 1 1 v (dotZ b ys) e ey W (HIV5.out.ext hW) hq HV4.out (by omega) (by have := HV5.out; omega) (by omega)
           rw [hnu] at this; exact this
          clear hbo hbk o1 o2 o3 o4 hsm hb6 hdz hnu
          refine wp_region_keys (w0 := w5) 11 [59, 60, 61, 62, 63, 64, 65, 66, 67, 68, 69]
           [leafS 59 (.agg #[.slice A a.length ca, .slice B b.length cb, .slice C c.length cc]), leafS 60 (.agg #[.slice Y ys.length cy, .int .i64 ey]), leafS 61 (.bool true), leafS 62 (.bool true), leafS 63 (.agg #[.slice (some ⟨vp, 0, none⟩) 1 1, .int .i64 e]), leafS 64 (.pointer (some ⟨bp, 1, none⟩)), leafS 65 (.slice B b.length cb), leafS 66 (.agg #[.slice Y ys.length cy, .int .i64 ey]), leaf1 67 (fun x w => ∃ q, x = .agg #[.slice (some ⟨q, 0, none⟩) 1 1, .int .i64 ey] ∧ IBlk w q [dotZ b ys]), leafS 68 (.bool false), leafS 69 (.bool false)]
           [] [none, none, none, none, none, none, none, none, none, none, none] NoBlk (by kernel_rfl) (by kernel_rfl) (by kernel_rfl) rfl (F := ?cFc8) ?c8c1 ?c8c2 ?c8c3 ?c8c4
          case c8c1 =>
           intro x
           simp only [fullF, Act.put, List.setIfInBounds_toArray, List.set_cons_zero, List.set_cons_succ]
           rfl
          case c8c2 =>
           exact ⟨keeps_const _ _ _ _ _ _ _, keeps_const _ _ _ _ _ _ _, keeps_const _ _ _ _ _ _ _, keeps_const _ _ _ _ _ _ _, keeps_const _ _ _ _ _ _ _, keeps_const _ _ _ _ _ _ _, keeps_const _ _ _ _ _ _ _, keeps_const _ _ _ _ _ _ _, keeps_calm (⟨fun x w w' ⟨q, h1, h2⟩ hb => ⟨q, h1, Blk.ext h2 hb⟩, fun x w w' p h hp hb => hp.elim⟩) _ _ _ _ _, keeps_const _ _ _ _ _ _ _, keeps_const _ _ _ _ _ _ _, trivial⟩
          case c8c3 =>
           refine ⟨?_, ?_, ?_, ?_, ?_, ?_, ?_, ?_, ?_, ?_, ?_, trivial⟩
           all_goals
            intro xx wq HE hd K hK
            have hc := (bcell HE).1
            have k0' := (hc _ _ (cell_lt k0)).trans k0
            have k1' := (hc _ _ (cell_lt k1)).trans k1
            have k2' := (hc _ _ (cell_lt k2)).trans k2
            have y0' := (hc _ _ (cell_lt y0)).trans y0
            have y1' := (hc _ _ (cell_lt y1)).trans y1
            have v0' := (hc _ _ (cell_lt v0)).trans v0
            have v1' := (hc _ _ (cell_lt v1)).trans v1
            try have e0 : xx 59 = _ := hd 0 _ (by decide) rfl
            try have e1 : xx 60 = _ := hd 1 _ (by decide) rfl
            try have e2 : xx 61 = _ := hd 2 _ (by decide) rfl
            try have e3 : xx 62 = _ := hd 3 _ (by decide) rfl
            try have e4 : xx 63 = _ := hd 4 _ (by decide) rfl
            try have e5 : xx 64 = _ := hd 5 _ (by decide) rfl
            try have e6 : xx 65 = _ := hd 6 _ (by decide) rfl
            try have e7 : xx 66 = _ := hd 7 _ (by decide) rfl
            try have g8 := hd 8 _ (by decide) rfl
            try have e9 : xx 68 = _ := hd 9 _ (by decide) rfl
            try have e10 : xx 69 = _ := hd 10 _ (by decide) rfl
            have HE := Lib.hid HE
            have HC := Lib.hid hc
            clear hd hc
            all_goals go_simp
            try (refine hK _ _ _ (mv_const _ rfl) ?_; dsimp only [Act.put]; first | done | rfl | (simp [*]; done))
           ·refine (HBO.out wq HE.out).mono ?_
            rintro e w8 ⟨rfl, hb⟩
            exact hK _ _ _ (mv_plain hb rfl rfl) (by first | (dsimp only [Act.put]; done) | (dsimp only [Act.put]; first | rfl | (simp [*]; done) | (simp [*, ptr]; done)))
           ·refine (HPC.out wq HE.out).mono ?_
            rintro e w8 ⟨q, rfl, hq, hb⟩
            exact hK _ _ _ (mv_plain hb ⟨q, rfl, hq⟩ rfl) (by first | (dsimp only [Act.put]; done) | (dsimp only [Act.put]; first | rfl | (simp [*]; done) | (simp [*, ptr]; done)))
           ·obtain ⟨q, hq1, hq2⟩ := g8
            rw [hq1]
            refine (HUN.out wq q HE.out hq2).mono ?_
            rintro e w8 ⟨rfl, hb⟩
            exact hK _ _ _ (mv_plain hb rfl rfl) (by first | (dsimp only [Act.put]; done) | (dsimp only [Act.put]; first | rfl | (simp [*]; done) | (simp [*, ptr]; done)))
          case c8c4 =>
           intro xx wz hE hG hA
           have e0 : xx 59 = _ := hG 0 _ rfl
           have e1 : xx 60 = _ := hG 1 _ rfl
           have e2 : xx 61 = _ := hG 2 _ rfl
           have e3 : xx 62 = _ := hG 3 _ rfl
           have e4 : xx 63 = _ := hG 4 _ rfl
           have e5 : xx 64 = _ := hG 5 _ rfl
           have e6 : xx 65 = _ := hG 6 _ rfl
           have e7 : xx 66 = _ := hG 7 _ rfl
           have g8 := hG 8 _ rfl
           have e9 : xx 68 = _ := hG 9 _ rfl
           have e10 : xx 69 = _ := hG 10 _ rfl
           clear hG hA
           refine wpAny_done (by kernel_rfl) ?_ _
           rw [e10]
           go_wp2_with fail
           go_meet
           exact ⟨rfl, hE⟩
       case rest =>
        obtain ⟨rfl, hb6⟩ := hcut
        clear HBO k0 k1 k2 y0 y1 v0 v1
        have HB6 := Lib.hid (HB5.out.trans (hb6.mono HB5.out.size))
        have HBA6 := Lib.hid (HBA5.out.ext hb6)
        have HBB6 := Lib.hid (HBB5.out.ext hb6)
        have HV6B := Lib.hid (HV5B.out.ext hb6)
        have HIV6 := Lib.hid (HIV5.out.ext hb6)
        clear hb6 HB5 HBA5 HBB5 HV5B HIV5
        have HM := Lib.hid (minimum_calls A B C ca cb cc a b c wc (HP.out.ext HB6.out) (HT.out.ext HB6.out))
        have k0 := HBA6.out.cell 0 (by simp)
        have k1 := HBA6.out.cell 1 (by simp)
        have k2 := HBA6.out.cell 2 (by simp)
        simp only [List.getElem_cons_zero, List.getElem_cons_succ, List.map_cons, List.map_nil] at k0 k1 k2
        go_wp2_with fail
        refine HM.out.mono ?_; rintro e7 w7 ⟨hpost, hb7⟩
        clear HM k0 k1 k2
        have HB7 := Lib.hid (HB6.out.trans (hb7.mono HB6.out.size))
        have HBA7 := Lib.hid (HBA6.out.ext hb7)
        have HBB7 := Lib.hid (HBB6.out.ext hb7)
        have HV7B := Lib.hid (HV6B.out.ext hb7)
        have HIV7 := Lib.hid (HIV6.out.ext hb7)
        clear hb7 HB6 HBA6 HBB6 HV6B HIV6
        rcases min_feas hpost HFE.out with ⟨z, hz, rfl⟩ | ⟨x, y, mp, ms, dm, hf, hpt, hI, rfl⟩
        ·clear hpost
         have HZ := Lib.hid hz
         clear hz
         obtain ⟨w8, hw8⟩ : ∃ W, w7.alloc (.cells #[.slice none 0 0, .int .i64 0] 29 (0, 0)) = W := ⟨_, rfl⟩
         have hb8 : Below w7.heap.size w7 w8 := by rw [← hw8]; exact (Below.refl _ _).alloc (Nat.le_refl _) _
         have HQ8 : Hid (Blk w8 w7.heap.size [.slice none 0 0, .int .i64 0] 29) := Lib.hid (by rw [← hw8]; exact Blk.new _ _ _)
         clear HQ8
         have HB8 := Lib.hid (HB7.out.trans (hb8.mono HB7.out.size))
         have HBA8 := Lib.hid (HBA7.out.ext hb8)
         have HBB8 := Lib.hid (HBB7.out.ext hb8)
         have HV8B := Lib.hid (HV7B.out.ext hb8)
         have HIV8 := Lib.hid (HIV7.out.ext hb8)
         clear hb8 HB7 HBA7 HBB7 HV7B HIV7
         have HRY := Lib.hid (ray1_calls A B C ca cb cc a b c w8 (HP.out.ext HB8.out) (HT2.out.ext HB8.out))
         have k0 := HBA8.out.cell 0 (by simp)
         have k1 := HBA8.out.cell 1 (by simp)
         have k2 := HBA8.out.cell 2 (by simp)
         simp only [List.getElem_cons_zero, List.getElem_cons_succ, List.map_cons, List.map_nil] at k0 k1 k2
         rw [← hw8] at k0 k1 k2
         have HW8 := Lib.hid hw8
         clear hw8
         go_wp2_with fail
         rw [HW8.out]
         refine HRY.out.mono ?_; rintro e9 w9 ⟨hpost2, hb9⟩
         clear HRY k0 k1 k2 HW8
         obtain ⟨zr, rp, ds, dm, hfr, hpt, hI, rfl⟩ := ray_free hpost2 HFE.out HZ.out
         have HFR := Lib.hid hfr; have HPT := Lib.hid hpt; have HDL := Lib.hid hpt.len
         have hd1 := hpt.d1
         clear hpost2 HZ hfr hpt
         have HB9 := Lib.hid (HB8.out.trans (hb9.mono HB8.out.size))
         have HBA9 := Lib.hid (HBA8.out.ext hb9)
         have HBB9 := Lib.hid (HBB8.out.ext hb9)
         have HV9B := Lib.hid (HV8B.out.ext hb9)
         have HIV9 := Lib.hid (HIV8.out.ext hb9)
         clear hb9 HB8 HBA8 HBB8 HV8B HIV8
         obtain ⟨w10, hw10⟩ : ∃ W, w9.alloc (.cells #[.slice (some ⟨rp, 0, none⟩) c.length c.length, .int .i64 dm] 29 (0, 0)) = W := ⟨_, rfl⟩
         have hb10 : Below w9.heap.size w9 w10 := by rw [← hw10]; exact (Below.refl _ _).alloc (Nat.le_refl _) _
         have HQ10 : Hid (Blk w10 w9.heap.size [.slice (some ⟨rp, 0, none⟩) c.length c.length, .int .i64 dm] 29) := Lib.hid (by rw [← hw10]; exact Blk.new _ _ _)
         have HI10 := Lib.hid (Blk.ext hI hb10)
         clear hI
         have HB10 := Lib.hid (HB9.out.trans (hb10.mono HB9.out.size))
         have HBA10 := Lib.hid (HBA9.out.ext hb10)
         have HBB10 := Lib.hid (HBB9.out.ext hb10)
         have HV10B := Lib.hid (HV9B.out.ext hb10)
         have HIV10 := Lib.hid (HIV9.out.ext hb10)
         clear hb10 HB9 HBA9 HBB9 HV9B HIV9
         obtain ⟨qp, hqp⟩ : ∃ qp, w9.heap.size = qp := ⟨_, rfl⟩
         rw [hqp] at HQ10
         have hnx : ((c.length : Int) != (xs.length : Int)) = false := by rw [HXL.out]; simp
         have x0 := HBB10.out.cell 0 (by simp)
         have x1 := HBB10.out.cell 1 (by simp)
         have q0 := HQ10.out.cell 0 (by simp)
         have q1 := HQ10.out.cell 1 (by simp)
         simp only [List.getElem_cons_zero, List.getElem_cons_succ, List.map_cons, List.map_nil] at x0 x1 q0 q1
         rw [← hw10] at x0 x1 q0 q1
         have HW10 := Lib.hid hw10; have HQP := Lib.hid hqp
         clear hw10 hqp
         by_cases h1 : 1000 < d
         ·have d1 : decide (1000 < d) = true := decide_eq_true h1
          clear h1
          have HAL := Lib.hid (alive_calls w10 (HT.out.ext HB10.out))
          go_wp2_with fail
          rw [HW10.out]
          refine HAL.out.mono ?_; rintro e wz ⟨rfl, hbz⟩
          have HBZ := Lib.hid (HB10.out.trans (hbz.mono HB10.out.size))
          clear hbz HAL
          go_wp2
          go_ret
          exact ⟨rfl, HBZ.out⟩
         ·have d1 : decide (1000 < d) = false := decide_eq_false h1
          by_cases h2 : 1048576 < dm
          ·have d2 : decide (1048576 < dm) = true := decide_eq_true h2
           clear h2 h1
           have HAL := Lib.hid (alive_calls w10 (HT.out.ext HB10.out))
           go_wp2_with fail
           rw [HW10.out]
           refine HAL.out.mono ?_; rintro e wz ⟨rfl, hbz⟩
           have HBZ := Lib.hid (HB10.out.trans (hbz.mono HB10.out.size))
           clear hbz HAL
           go_wp2
           go_ret
           exact ⟨rfl, HBZ.out⟩
          ·have d2 : decide (1048576 < dm) = false := decide_eq_false h2
           have H1 : Hid (d ≤ 1000) := Lib.hid (by omega)
           have H2 : Hid (dm ≤ 1048576) := Lib.hid (by omega)
           clear h1 h2
           have HTX := Lib.hid (tame_calls X cx xs d 16777216 w10 (HX.out.ext HB10.out) (by rw [HXL.out]; have := HC6.out; omega) (by omega) (by omega))
           go_wp2_with fail
           rw [HW10.out]
           rw [HQP.out]
           refine HTX.out.mono ?_; rintro r w11 ⟨rfl, hb11⟩
           clear HTX x0 x1 q0 q1 HW10 HQP hnx d1 d2
           have HB11 := Lib.hid (HB10.out.trans (hb11.mono HB10.out.size))
           have HBA11 := Lib.hid (HBA10.out.ext hb11)
           have HBB11 := Lib.hid (HBB10.out.ext hb11)
           have HV11B := Lib.hid (HV10B.out.ext hb11)
           have HIV11 := Lib.hid (HIV10.out.ext hb11)
           have HQ11 := Lib.hid (HQ10.out.ext hb11)
           have HI11 := Lib.hid (HI10.out.ext hb11)
           clear hb11 HB10 HBA10 HBB10 HV10B HIV10 HQ10 HI10
           cases htx : listOk 16777216 xs with
           | false =>
             clear htx
             have HAL := Lib.hid (alive_calls w11 (HT.out.ext HB11.out))
             go_wp2_with fail
             refine HAL.out.mono ?_; rintro e wz ⟨rfl, hbz⟩
             have HBZ := Lib.hid (HB11.out.trans (hbz.mono HB11.out.size))
             clear hbz HAL
             go_wp2
             go_ret
             exact ⟨rfl, HBZ.out⟩
           | true =>
             have HLX := Lib.hid htx
             clear htx
             have htd := tame_calls (some ⟨rp, 0, none⟩) c.length ds dm 16777216 w11 (IBlk.ints HI11.out) (by rw [HDL.out]; have := HC6.out; omega) (by omega) (by omega)
             rw [HDL.out] at htd
             have HTD := Lib.hid htd
             clear htd
             have q0 := HQ11.out.cell 0 (by simp)
             have q1 := HQ11.out.cell 1 (by simp)
             simp only [List.getElem_cons_zero, List.getElem_cons_succ, List.map_cons, List.map_nil] at q0 q1
             go_wp2_with fail
             refine HTD.out.mono ?_; rintro r w12 ⟨rfl, hb12⟩
             clear HTD q0 q1
             have HB12 := Lib.hid (HB11.out.trans (hb12.mono HB11.out.size))
             have HBA12 := Lib.hid (HBA11.out.ext hb12)
             have HBB12 := Lib.hid (HBB11.out.ext hb12)
             have HV12B := Lib.hid (HV11B.out.ext hb12)
             have HIV12 := Lib.hid (HIV11.out.ext hb12)
             have HQ12 := Lib.hid (HQ11.out.ext hb12)
             have HI12 := Lib.hid (HI11.out.ext hb12)
             clear hb12 HB11 HBA11 HBB11 HV11B HIV11 HQ11 HI11
             cases htx : listOk 16777216 ds with
             | false =>
               clear htx
               have HAL := Lib.hid (alive_calls w12 (HT.out.ext HB12.out))
               go_wp2_with fail
               refine HAL.out.mono ?_; rintro e wz ⟨rfl, hbz⟩
               have HBZ := Lib.hid (HB12.out.trans (hbz.mono HB12.out.size))
               clear hbz HAL
               go_wp2
               go_ret
               exact ⟨rfl, HBZ.out⟩
             | true =>
               have HLD := Lib.hid htx
               clear htx
               have hdx := (pointOk_parts HPO.out).2.1
               obtain ⟨de, hde⟩ : ∃ de, d * dm = de := ⟨_, rfl⟩
               have wde : IntKind.i64.wrap (d * dm) = de := by
                have := mul_bd (a := 1000) (b := 1048576) (x := d) (y := dm) (by omega) ⟨by omega, H1.out⟩ ⟨by omega, H2.out⟩
                rw [IntKind.wrap_i64, ← hde]; omega
               have HDE := Lib.hid hde
               clear hde
               have x1 := HBB12.out.cell 1 (by simp)
               have q1 := HQ12.out.cell 1 (by simp)
               simp only [List.getElem_cons_zero, List.getElem_cons_succ, List.map_cons, List.map_nil] at x1 q1
               obtain ⟨w13, hw13⟩ : ∃ W, w12.alloc (.cells #[.slice none 0 0, .int .i64 de] 29 (0, 0)) = W := ⟨_, rfl⟩
               have hb13 : Below w12.heap.size w12 w13 := by rw [← hw13]; exact (Below.refl _ _).alloc (Nat.le_refl _) _
               have HT13 : Hid (Blk w13 w12.heap.size [.slice none 0 0, .int .i64 de] 29) := Lib.hid (by rw [← hw13]; exact Blk.new _ _ _)
               obtain ⟨tp, htp⟩ : ∃ tp, w12.heap.size = tp := ⟨_, rfl⟩
               rw [htp] at HT13
               have HB13 := Lib.hid hb13; have HW13 := Lib.hid hw13; have HTP := Lib.hid htp
               clear hb13 hw13 htp
               go_wp2
               rw [HW13.out]
               rw [HTP.out]
               clear x1 q1 wde
               have hk1 : Hid (1 ≤ 1 + st ∧ 1 + st ≤ 256) := Lib.hid (by have := HST.out; omega)
               obtain ⟨kk, hkk⟩ : ∃ kk, 1 + st = kk := ⟨_, rfl⟩
               rw [hkk] at hk1
               have HKK := Lib.hid hkk
               clear hkk
               obtain ⟨TO, hTO⟩ : ∃ TO, moved xs ds d dm kk c.length = TO := ⟨_, rfl⟩
               have hTL : Hid (TO.length = c.length) := Lib.hid (by rw [← hTO]; exact moved_len _ _ _ _ _ _)
               have HTO := Lib.hid hTO
               clear hTO
               go_loopw [17] (fun ti wr => ∃ (k : Nat) (V : Value), k ≤ c.length ∧ ti = .int .i64 k ∧ Blk wr tp [V, .int .i64 de] 29 ∧ wr.ownsRow (tp + 1) 3 1 V k ((TO.take k).map (Value.int .i64)) ∧ Below w12.heap.size w12 wr) (fun ti _ => c.length - (intOf ti).toNat)
               case atStart => exact ⟨0, _, Nat.zero_le _, rfl, HT13.out, World.ownsRow_nil _ _ _ _, HB13.out⟩
               case round =>
                obtain ⟨k, V, hk, rfl, hbm, hown, hbe⟩ := hrel
                have hBB := Lib.hid (HBB12.out.ext hbe)
                have hQQ := Lib.hid (HQ12.out.ext hbe)
                have x0 := hBB.out.cell 0 (by simp)
                have x1 := hBB.out.cell 1 (by simp)
                have q0 := hQQ.out.cell 0 (by simp)
                have q1 := hQQ.out.cell 1 (by simp)
                simp only [List.getElem_cons_zero, List.getElem_cons_succ, List.map_cons, List.map_nil] at x0 x1 q0 q1
                have t0 : wr.cell? ⟨tp, 0, none⟩ = some V := hbm.cell 0 (by simp)
                by_cases hlt : k < c.length
                ·have hlx : k < xs.length := by rw [HXL.out]; exact hlt
                 have hk2 : (k : Int) < xs.length := by omega
                 have hk3 : (k : Int) < c.length := by omega
                 obtain ⟨b1, o1, rfl, c1⟩ := (HX.out.ext (HB12.out.trans (hbe.mono HB12.out.size))) k hlx
                 have c2 := Blk.cell (HI12.out.ext hbe) k (by simp; rw [HDL.out]; exact hlt)
                 rw [List.getElem_map, ← nth_lt (by rw [HDL.out]; exact hlt)] at c2
                 have g1 := listOk_nth HLX.out hlx
                 have g2 := listOk_nth HLD.out (i := k) (by rw [HDL.out]; exact hlt)
                 have hnext : Hid ((TO.take (k + 1)).map (Value.int .i64) = (TO.take k).map (Value.int .i64) ++ [.int .i64 (nth xs k * dm + kk * d * nth ds k)]) := Lib.hid (by rw [← HTO.out]; exact moved_take hlt)
                 obtain ⟨xk, hxk⟩ : ∃ x, nth xs k = x := ⟨_, rfl⟩
                 obtain ⟨dk, hdk⟩ : ∃ x, nth ds k = x := ⟨_, rfl⟩
                 rw [hxk] at c1 g1 hnext
                 rw [hdk] at c2 g2 hnext
                 have hp0 := (pointOk_parts HPO.out).2.1
                 have m1 := mul_bd (a := 16777216) (b := 1048576) (x := xk) (y := dm) (by omega) g1 ⟨by omega, H2.out⟩
                 have m2 := mul_bd (a := 256) (b := 1000) (x := kk) (y := d) (by omega) ⟨by have := hk1.out; omega, hk1.out.2⟩ ⟨by omega, H1.out⟩
                 have m3 := mul_bd (a := 256000) (b := 16777216) (x := kk * d) (y := dk) (by omega) ⟨by omega, by omega⟩ g2
                 obtain ⟨p1, hp1⟩ : ∃ p, xk * dm = p := ⟨_, rfl⟩
                 obtain ⟨p2, hp2⟩ : ∃ p, kk * d = p := ⟨_, rfl⟩
                 rw [hp2] at m2 m3
                 obtain ⟨p3, hp3⟩ : ∃ p, p2 * dk = p := ⟨_, rfl⟩
                 obtain ⟨p4, hp4⟩ : ∃ p, p1 + p3 = p := ⟨_, rfl⟩
                 rw [hp1] at m1
                 rw [hp3] at m3
                 rw [hp1, hp2, hp3, hp4] at hnext
                 have wq1 : IntKind.i64.wrap (xk * dm) = p1 := by rw [IntKind.wrap_i64, hp1]; omega
                 have wq2 : IntKind.i64.wrap (1 + st) = kk := by rw [IntKind.wrap_i64, HKK.out]; have := hk1.out; omega
                 have wq3 : IntKind.i64.wrap (kk * d) = p2 := by rw [IntKind.wrap_i64, hp2]; omega
                 have wq4 : IntKind.i64.wrap (p2 * dk) = p3 := by rw [IntKind.wrap_i64, hp3]; omega
                 have wq5 : IntKind.i64.wrap (p1 + p3) = p4 := by rw [IntKind.wrap_i64, hp4]; omega
                 have wq6 : IntKind.i64.wrap st = st := by rw [IntKind.wrap_i64]; have := HST.out; omega
                 have htl : tp < wr.heap.size := hbm.lt
                 have HLT := Lib.hid htl; have HOW := Lib.hid hown; have HBM := Lib.hid hbm; have HBE := Lib.hid hbe; have HLL := Lib.hid hlt; have HNX := hnext
                 clear hxk hdk hp0 hp1 hp2 hp3 hp4 m1 m2 m3 g1 g2 htl hown hbm hbe hnext hlt hlx
                 go_wp2_with fail
                 refine wp_region_keys (w0 := wr) 24 [152, 153, 154, 155, 156, 157, 158, 159, 160, 161, 162, 163, 164, 165, 166, 167, 168, 169, 170, 171, 172, 173, 174, 175]
                  [leafS 152 (.pointer (some ⟨tp, 0, none⟩)), leafS 153 (V), leafS 154 (.pointer (some ⟨xp, 0, none⟩)), leafS 155 (.slice (some ⟨b1, o1, none⟩) xs.length cx), leafS 156 (.int .i64 k), leafS 157 (.pointer (some ⟨b1, o1 + k, none⟩)), leafS 158 (.int .i64 xk), leafS 159 (.pointer (some ⟨qp, 1, none⟩)), leafS 160 (.int .i64 dm), leafS 161 (.int .i64 p1), leafS 162 (.int .u8 st), leafS 163 (.int .i64 st), leafS 164 (.int .i64 kk), leafS 165 (.pointer (some ⟨xp, 1, none⟩)), leafS 166 (.int .i64 d), leafS 167 (.int .i64 p2), leafS 168 (.pointer (some ⟨qp, 0, none⟩)), leafS 169 (.slice (some ⟨rp, 0, none⟩) c.length c.length), leafS 170 (.int .i64 k), leafS 171 (.pointer (some ⟨rp, k, none⟩)), leafS 172 (.int .i64 dk), leafS 173 (.int .i64 p3), leafS 174 (.int .i64 p4), leaf1 175 (fun v w => ∃ g, v = .slice (some ⟨g, 0, none⟩) 1 1 ∧ tp + 1 ≤ g ∧ IBlk w g [p4])]
                  [] [none, none, none, none, none, none, none, none, none, none, none, none, none, none, none, none, none, none, none, none, none, none, none, none] NoBlk (by kernel_rfl) (by kernel_rfl) (by kernel_rfl) rfl (F := ?cFw23) ?w23c1 ?w23c2 ?w23c3 ?w23c4
                 case w23c1 =>
                  intro x
                  simp only [fullF, Act.put, List.setIfInBounds_toArray, List.set_cons_zero, List.set_cons_succ]
                  rfl
                 case w23c2 =>
                  exact ⟨keeps_const _ _ _ _ _ _ _, keeps_const _ _ _ _ _ _ _, keeps_const _ _ _ _ _ _ _, keeps_const _ _ _ _ _ _ _, keeps_const _ _ _ _ _ _ _, keeps_const _ _ _ _ _ _ _, keeps_const _ _ _ _ _ _ _, keeps_const _ _ _ _ _ _ _, keeps_const _ _ _ _ _ _ _, keeps_const _ _ _ _ _ _ _, keeps_const _ _ _ _ _ _ _, keeps_const _ _ _ _ _ _ _, keeps_const _ _ _ _ _ _ _, keeps_const _ _ _ _ _ _ _, keeps_const _ _ _ _ _ _ _, keeps_const _ _ _ _ _ _ _, keeps_const _ _ _ _ _ _ _, keeps_const _ _ _ _ _ _ _, keeps_const _ _ _ _ _ _ _, keeps_const _ _ _ _ _ _ _, keeps_const _ _ _ _ _ _ _, keeps_const _ _ _ _ _ _ _, keeps_const _ _ _ _ _ _ _, keeps_calm (isOne_calm (tp + 1) p4) _ _ _ _ _, trivial⟩
                 case w23c3 =>
                  refine ⟨?_, ?_, ?_, ?_, ?_, ?_, ?_, ?_, ?_, ?_, ?_, ?_, ?_, ?_, ?_, ?_, ?_, ?_, ?_, ?_, ?_, ?_, ?_, ?_, trivial⟩
                  all_goals
                   intro xx wq HE hd K hK
                   have hc := (bcell HE).1
                   have x0' := (hc _ _ (cell_lt x0)).trans x0
                   have x1' := (hc _ _ (cell_lt x1)).trans x1
                   have q0' := (hc _ _ (cell_lt q0)).trans q0
                   have q1' := (hc _ _ (cell_lt q1)).trans q1
                   have t0' := (hc _ _ (cell_lt t0)).trans t0
                   have c1' := (hc _ _ (cell_lt c1)).trans c1
                   have c2' := (hc _ _ (cell_lt c2)).trans c2
                   try have e0 : xx 152 = _ := hd 0 _ (by decide) rfl
                   try have e1 : xx 153 = _ := hd 1 _ (by decide) rfl
                   try have e2 : xx 154 = _ := hd 2 _ (by decide) rfl
                   try have e3 : xx 155 = _ := hd 3 _ (by decide) rfl
                   try have e4 : xx 156 = _ := hd 4 _ (by decide) rfl
                   try have e5 : xx 157 = _ := hd 5 _ (by decide) rfl
                   try have e6 : xx 158 = _ := hd 6 _ (by decide) rfl
                   try have e7 : xx 159 = _ := hd 7 _ (by decide) rfl
                   try have e8 : xx 160 = _ := hd 8 _ (by decide) rfl
                   try have e9 : xx 161 = _ := hd 9 _ (by decide) rfl
                   try have e10 : xx 162 = _ := hd 10 _ (by decide) rfl
                   try have e11 : xx 163 = _ := hd 11 _ (by decide) rfl
                   try have e12 : xx 164 = _ := hd 12 _ (by decide) rfl
                   try have e13 : xx 165 = _ := hd 13 _ (by decide) rfl
                   try have e14 : xx 166 = _ := hd 14 _ (by decide) rfl
                   try have e15 : xx 167 = _ := hd 15 _ (by decide) rfl
                   try have e16 : xx 168 = _ := hd 16 _ (by decide) rfl
                   try have e17 : xx 169 = _ := hd 17 _ (by decide) rfl
                   try have e18 : xx 170 = _ := hd 18 _ (by decide) rfl
                   try have e19 : xx 171 = _ := hd 19 _ (by decide) rfl
                   try have e20 : xx 172 = _ := hd 20 _ (by decide) rfl
                   try have e21 : xx 173 = _ := hd 21 _ (by decide) rfl
                   try have e22 : xx 174 = _ := hd 22 _ (by decide) rfl
                   try have g23 := hd 23 _ (by decide) rfl
                   have HE := Lib.hid HE
                   have HC := Lib.hid hc
                   clear hd hc
                   all_goals go_simp
                   try (refine hK _ _ _ (mv_const _ rfl) ?_; dsimp only [Act.put]; first | done | rfl | (simp [*]; done))
                  ·exact hK _ _ _ (mv_plain ((Below.refl _ _).alloc (Nat.le_refl _) _) ⟨_, rfl, Nat.lt_of_lt_of_le HLT.out HE.out.size, Blk.new _ [_] _⟩ rfl) (by first | (dsimp only [Act.put]; done) | (dsimp only [Act.put]; first | rfl | (simp [*]; done) | (simp [*, ptr]; done)))
                 case w23c4 =>
                  intro xx wz hE hG hA
                  have e0 : xx 152 = _ := hG 0 _ rfl
                  have e1 : xx 153 = _ := hG 1 _ rfl
                  have e2 : xx 154 = _ := hG 2 _ rfl
                  have e3 : xx 155 = _ := hG 3 _ rfl
                  have e4 : xx 156 = _ := hG 4 _ rfl
                  have e5 : xx 157 = _ := hG 5 _ rfl
                  have e6 : xx 158 = _ := hG 6 _ rfl
                  have e7 : xx 159 = _ := hG 7 _ rfl
                  have e8 : xx 160 = _ := hG 8 _ rfl
                  have e9 : xx 161 = _ := hG 9 _ rfl
                  have e10 : xx 162 = _ := hG 10 _ rfl
                  have e11 : xx 163 = _ := hG 11 _ rfl
                  have e12 : xx 164 = _ := hG 12 _ rfl
                  have e13 : xx 165 = _ := hG 13 _ rfl
                  have e14 : xx 166 = _ := hG 14 _ rfl
                  have e15 : xx 167 = _ := hG 15 _ rfl
                  have e16 : xx 168 = _ := hG 16 _ rfl
                  have e17 : xx 169 = _ := hG 17 _ rfl
                  have e18 : xx 170 = _ := hG 18 _ rfl
                  have e19 : xx 171 = _ := hG 19 _ rfl
                  have e20 : xx 172 = _ := hG 20 _ rfl
                  have e21 : xx 173 = _ := hG 21 _ rfl
                  have e22 : xx 174 = _ := hG 22 _ rfl
                  have g23 := hG 23 _ rfl
                  obtain ⟨gq, e23, hgq, hgi⟩ := g23
                  have HEz := Lib.hid hE
                  clear hG hA hE
                  refine tail_one (i := 24) (by kernel_rfl) rfl ?_
                  intro K hK
                  rw [if_pos (by rfl)]
                  obtain ⟨i0, hi, hz0, hz1, hz2⟩ := info_parts infoInt
                  refine wp_append_own _ (.tmp 153) (.tmp 175) 23 rfl (tp + 1) 3 i0 (.int .i64 0) 1 8 Tryz.underlying23 hi hz0 hz1 hz2 rfl (by decide) V k _ e1 (own_ext HOW.out HEz.out) ⟨gq, 0, none⟩ 1 1 [.int .i64 p4] e23 rfl ?_ (lone_cellI _ _) (by unfold maxLen; have := HC6.out; omega) (by have := HC6.out; omega) (by have := HEz.out.size; have := HLT.out; omega) ?_
                  ·intro j y hy
                   rcases j with _ | j
                   ·simp at hy; subst hy; exact Blk.cell hgi 0 (by simp)
                   ·simp at hy
                  intro v' w1 hown1 hgrow _
                  obtain ⟨g9, cap, rfl⟩ : ∃ g cap, v' = .slice (some ⟨g, 0, none⟩) (k + 1) cap := by
                   rcases hown1.2 with ⟨-, h0⟩ | ⟨g, cap, cur, e, -⟩
                   ·omega
                   ·exact ⟨g, cap, e⟩
                  have hrow : ∀ q, V.ownBlock = some q → tp + 1 ≤ q := own_block HOW.out
                  have bm1 := BlkI_grown (Blk.ext HBM.out HEz.out) hgrow (fun e => by have := hrow _ e.symm; omega)
                  have hbe1 : Below w12.heap.size w12 w1 := (HBE.out.trans (HEz.out.mono HBE.out.size)).grown hgrow (by have := HBE.out.size; have := HEz.out.size; omega) (fun q hq => by have := hrow q hq; have := HTP.out; omega)
                  have HO1 := Lib.hid hown1; have HBE1 := Lib.hid hbe1
                  have m31 : w1.cell? ⟨tp, 0, none⟩ = some V := bm1.cell 0 (by simp)
                  have mf1 := bm1.free 0
                  have hbm1 := bm1.lt
                  have HBM1 := Lib.hid bm1
                  clear hown1 hgrow hrow bm1 hbe1 hgi hgq e23 x0 x1 q0 q1 t0 c1 c2 wq1 wq2 wq3 wq4 wq5 wq6
                  have hc9 := HC6.out
                  have hl9 := HLL.out
                  refine hK _ _ ?_
                  (refine tail_one (i := 25) (by kernel_rfl) rfl ?_; intro K hK; go_simp; refine hK _ _ ?_; clear hK)
                  (refine tail_one (i := 26) (by kernel_rfl) rfl ?_; intro K hK; go_simp; refine hK _ _ ?_; clear hK)
                  refine wpAny_done (by kernel_rfl) ?_ _
                  simp only [Exit.inBlock, Exit.then]
                  go_wp2
                  go_roundw
                  case rel => exact ⟨k + 1, _, by have := HLL.out; omega, by go_num, HBM1.out.set 0 _, by rw [HNX.out]; exact own_setI HO1.out _ _ (by dsimp only; omega), HBE1.out.setCell (by have := HTP.out; dsimp only; omega) _⟩
                  case measure => simp [intOf]; omega
                ·obtain rfl : k = c.length := by omega
                 have hTT : TO.take c.length = TO := by rw [← hTL.out, List.take_length]
                 rw [hTT] at hown
                 obtain ⟨AV, cV, rfl, -, -, hAV⟩ := own_ints hown
                 have HAV := Lib.hid hAV
                 have hde1 : Hid (decide ((c.length : Int) < (xs.length : Int)) = false) := Lib.hid (by rw [HXL.out]; simp)
                 have HTB := Lib.hid hbm
                 have HBE := Lib.hid (HB12.out.trans (hbe.mono HB12.out.size))
                 have HVV := Lib.hid (HV12B.out.ext hbe)
                 have HIVV := Lib.hid (Blk.ext HIV12.out hbe)
                 have hmo := moved_ok HPO.out HPT.out H1.out H2.out (tame_all HLX.out HXL.out) (tame_all HLD.out HDL.out) hk1.out.1 hk1.out.2
                 rw [HTO.out] at hmo
                 have hmf := moved_feasS HFE.out HPT.out HFR.out hk1.out.1 (by rw [HTO.out]; exact hmo)
                 have hmc := moved_cost HFE.out HPT.out HFR.out hk1.out.1
                 rw [HTO.out] at hmf hmc
                 rw [HDE.out] at hmo hmf hmc
                 have HBAA := Lib.hid (HBA12.out.ext hbe)
                 have hmx : TO.length ≤ maxLen := by rw [hTL.out]; have := HC6.out; unfold maxLen; omega
                 obtain ⟨m, em, gm, m1, m2, m3, m4, m5, hvm⟩ := value_one A B C AV ca cb cc cV a b c TO de wr (HP.out.ext HBE.out) HAV.out hmx HPR.out hmo
                 have hft := feasibleL_calls A B C AV ca cb cc cV a b c TO de
                 have HVM := Lib.hid hvm
                 have hun : decide (m * e < v * em) = true := by
                  refine decide_eq_true ((val_cmp m1 HV1.out).2 ?_)
                  rw [← m2, ← HV3.out, ← HV2.out, ← m3]; exact hmc
                 have HFT : Hid (∀ W, Below wr.heap.size wr W → Calls Tryz.prog 40 #[.agg #[.slice A a.length ca, .slice B b.length cb, .slice C c.length cc], .agg #[.slice AV TO.length cV, .int .i64 de]] W fun e w' => e = .returned (.bool true) ∧ Below W.heap.size W w') := Lib.hid fun W hW => by
                  have := hft W (HP.out.ext (HBE.out.trans (hW.mono HBE.out.size))) (HAV.out.ext hW) hmx
                  rw [hmf] at this; exact this
                 have HUN : Hid (∀ W q, Below wr.heap.size wr W → IBlk W q [m] → Calls Tryz.prog 42 #[.agg #[.slice (some ⟨q, 0, none⟩) 1 1, .int .i64 em], .agg #[.slice (some ⟨vp, 0, none⟩) 1 1, .int .i64 e]] W fun r w' => r = .returned (.bool true) ∧ Below W.heap.size W w') := Lib.hid fun W q hW hq => by
                  have := under_calls q vp 1 1 m v em e W hq (HIVV.out.ext hW) m4 HV4.out (by omega) (by have := HV5.out; omega)
                  rw [hun] at this; exact this
                 clear hTT hown hAV hbm hmo hmf hmc hvm m1 m2 m3 m4 m5 hft hun hbe hmx
                 clear t0
                 have t0 := HTB.out.cell 0 (by simp)
                 have t1 := HTB.out.cell 1 (by simp)
                 have k0 := HBAA.out.cell 0 (by simp)
                 have k1 := HBAA.out.cell 1 (by simp)
                 have k2 := HBAA.out.cell 2 (by simp)
                 simp only [List.getElem_cons_zero, List.getElem_cons_succ, List.map_cons, List.map_nil] at t0 t1 k0 k1 k2
                 rw [HXL.out] at x0
                 go_wp2_with fail
                 refine HVM.out.mono ?_; rintro r w14 ⟨np, rfl, hIM, hb14⟩
                 have hb14c := hb14
                 clear HVM k0 k1 k2 t0 t1 x0 x1 q0 q1
                 have HB14 := Lib.hid (HBE.out.trans (hb14.mono HBE.out.size))
                 have HBA14 := Lib.hid (HBAA.out.ext hb14)
                 have HV14 := Lib.hid (HVV.out.ext hb14)
                 have HT14 := Lib.hid (HTB.out.ext hb14)
                 clear hb14 HBE HBAA HVV HTB
                 obtain ⟨w15, hw15⟩ : ∃ W, w14.alloc (.cells #[.slice (some ⟨np, 0, none⟩) 1 1, .int .i64 em] 29 (0, 0)) = W := ⟨_, rfl⟩
                 have hb15 : Below w14.heap.size w14 w15 := by rw [← hw15]; exact (Below.refl _ _).alloc (Nat.le_refl _) _
                 have HN15 : Hid (Blk w15 w14.heap.size [.slice (some ⟨np, 0, none⟩) 1 1, .int .i64 em] 29) := Lib.hid (by rw [← hw15]; exact Blk.new _ _ _)
                 have HIM15 := Lib.hid (Blk.ext hIM hb15)
                 have HR15 := Lib.hid (hb14c.trans (hb15.mono hb14c.size))
                 clear hb14c hIM
                 have HB15 := Lib.hid (HB14.out.trans (hb15.mono HB14.out.size))
                 have HBA15 := Lib.hid (HBA14.out.ext hb15)
                 have HV15 := Lib.hid (HV14.out.ext hb15)
                 have HT15 := Lib.hid (HT14.out.ext hb15)
                 clear hb15 HB14 HBA14 HV14 HT14
                 obtain ⟨nq, hnq⟩ : ∃ nq, w14.heap.size = nq := ⟨_, rfl⟩
                 rw [hnq] at HN15
                 have HFT2 := Lib.hid (HFT.out w15 HR15.out)
                 have k0 := HBA15.out.cell 0 (by simp)
                 have k1 := HBA15.out.cell 1 (by simp)
                 have k2 := HBA15.out.cell 2 (by simp)
                 have t0 := HT15.out.cell 0 (by simp)
                 have t1 := HT15.out.cell 1 (by simp)
                 have n0 := HN15.out.cell 0 (by simp)
                 have n1 := HN15.out.cell 1 (by simp)
                 simp only [List.getElem_cons_zero, List.getElem_cons_succ, List.map_cons, List.map_nil] at k0 k1 k2 t0 t1 n0 n1
                 rw [← hw15] at k0 k1 k2 t0 t1 n0 n1
                 have HW15 := Lib.hid hw15; have HNQ := Lib.hid hnq
                 clear hw15 hnq
                 go_wp2_with fail
                 rw [HW15.out]
                 rw [HNQ.out]
                 refine HFT2.out.mono ?_; rintro r w16 ⟨rfl, hb16⟩
                 clear HFT2 HFT k0 k1 k2 t0 t1 n0 n1 HW15 HNQ
                 have HUN2 := Lib.hid (HUN.out w16 np (HR15.out.trans (hb16.mono HR15.out.size)) (Blk.ext HIM15.out hb16))
                 have HB16 := Lib.hid (HB15.out.trans (hb16.mono HB15.out.size))
                 have HV16 := Lib.hid (HV15.out.ext hb16)
                 have HN16 := Lib.hid (HN15.out.ext hb16)
                 clear hb16 HB15 HV15 HN15
                 have v0 := HV16.out.cell 0 (by simp)
                 have v1 := HV16.out.cell 1 (by simp)
                 have n0 := HN16.out.cell 0 (by simp)
                 have n1 := HN16.out.cell 1 (by simp)
                 simp only [List.getElem_cons_zero, List.getElem_cons_succ, List.map_cons, List.map_nil] at v0 v1 n0 n1
                 go_wp2_with fail
                 refine HUN2.out.mono ?_; rintro r w17 ⟨rfl, hb17⟩
                 clear HUN2 HUN v0 v1 n0 n1
                 have HB17 := Lib.hid (HB16.out.trans (hb17.mono HB16.out.size))
                 clear hb17
                 have HAL := Lib.hid (alive_calls w17 (HT.out.ext HB17.out))
                 go_wp2_with fail
                 refine HAL.out.mono ?_; rintro e wz ⟨rfl, hbz⟩
                 have HBZ := Lib.hid (HB17.out.trans (hbz.mono HB17.out.size))
                 clear hbz HAL
                 go_wp2
                 go_ret
                 exact ⟨rfl, HBZ.out⟩
        ·clear hpost
         have HF := Lib.hid hf; have HPT := Lib.hid hpt; have HI := Lib.hid hI; have HML := Lib.hid hpt.len
         clear hf hpt hI
         obtain ⟨w8, hw8⟩ : ∃ W, w7.alloc (.cells #[.slice (some ⟨mp, 0, none⟩) c.length c.length, .int .i64 dm] 29 (0, 0)) = W := ⟨_, rfl⟩
         have hb8 : Below w7.heap.size w7 w8 := by rw [← hw8]; exact (Below.refl _ _).alloc (Nat.le_refl _) _
         have HQ8 : Hid (Blk w8 w7.heap.size [.slice (some ⟨mp, 0, none⟩) c.length c.length, .int .i64 dm] 29) := Lib.hid (by rw [← hw8]; exact Blk.new _ _ _)
         have HI8 := Lib.hid (Blk.ext HI.out hb8)
         clear HI
         have HB8 := Lib.hid (HB7.out.trans (hb8.mono HB7.out.size))
         have HBA8 := Lib.hid (HBA7.out.ext hb8)
         have HV8B := Lib.hid (HV7B.out.ext hb8)
         have HIV8 := Lib.hid (HIV7.out.ext hb8)
         clear hb8 HB7 HBA7 HV7B HIV7
         obtain ⟨qp, hqp⟩ : ∃ qp, w7.heap.size = qp := ⟨_, rfl⟩
         rw [hqp] at HQ8
         obtain ⟨m, em, gm, g1, g2, g3, g4, g5, hvm⟩ := value_one A B C (some ⟨mp, 0, none⟩) ca cb cc c.length a b c ms dm w8 (HP.out.ext HB8.out) (IBlk.ints HI8.out) (by rw [HML.out]; have := HC6.out; unfold maxLen; omega) HPR.out HPT.out.ok
         rw [HML.out] at hvm
         have HVM := Lib.hid hvm
         have hle := found_cost HFE.out HF.out HPT.out
         rw [HV2.out, g2] at hle
         have hun : decide (v * em < m * e) = false := by
          refine decide_eq_false fun h => ?_
          have h1 := (val_cmp HV1.out g1).1 h
          rw [← HV3.out, ← g3] at h1
          omega
         have HUN : Hid (∀ W q, Below w8.heap.size w8 W → IBlk W q [m] → Calls Tryz.prog 42 #[.agg #[.slice (some ⟨vp, 0, none⟩) 1 1, .int .i64 e], .agg #[.slice (some ⟨q, 0, none⟩) 1 1, .int .i64 em]] W fun r w' => r = .returned (.bool false) ∧ Below W.heap.size W w') := Lib.hid fun W q hW hq => by
          have := under_calls vp q 1 1 v m e em W (HIV8.out.ext hW) hq HV4.out g4 (by have := HV5.out; omega) (by omega)
          rw [hun] at this; exact this
         clear hvm g1 g2 g3 g4 g5 hle hun
         have k0 := HBA8.out.cell 0 (by simp)
         have k1 := HBA8.out.cell 1 (by simp)
         have k2 := HBA8.out.cell 2 (by simp)
         have q0 := HQ8.out.cell 0 (by simp)
         have q1 := HQ8.out.cell 1 (by simp)
         simp only [List.getElem_cons_zero, List.getElem_cons_succ, List.map_cons, List.map_nil] at k0 k1 k2 q0 q1
         rw [← hw8] at k0 k1 k2 q0 q1
         have HW8 := Lib.hid hw8; have HQP := Lib.hid hqp
         clear hw8 hqp
         go_wp2_with fail
         rw [HW8.out]
         rw [HQP.out]
         refine HVM.out.mono ?_; rintro r w9 ⟨np, rfl, hIM, hb9⟩
         have hb9c := hb9
         clear k0 k1 k2 q0 q1 HVM HW8 HQP
         have HB9 := Lib.hid (HB8.out.trans (hb9.mono HB8.out.size))
         have HV9B := Lib.hid (HV8B.out.ext hb9)
         clear hb9 HB8 HV8B
         obtain ⟨w10, hw10⟩ : ∃ W, w9.alloc (.cells #[.slice (some ⟨np, 0, none⟩) 1 1, .int .i64 em] 29 (0, 0)) = W := ⟨_, rfl⟩
         have hb10 : Below w9.heap.size w9 w10 := by rw [← hw10]; exact (Below.refl _ _).alloc (Nat.le_refl _) _
         have HN10 : Hid (Blk w10 w9.heap.size [.slice (some ⟨np, 0, none⟩) 1 1, .int .i64 em] 29) := Lib.hid (by rw [← hw10]; exact Blk.new _ _ _)
         have HIM10 := Lib.hid (Blk.ext hIM hb10)
         have HUN2 := Lib.hid (HUN.out w10 np (hb9c.trans (hb10.mono hb9c.size)) HIM10.out)
         clear hb9c hIM
         have HB10 := Lib.hid (HB9.out.trans (hb10.mono HB9.out.size))
         have HV10B := Lib.hid (HV9B.out.ext hb10)
         clear hb10 HB9 HV9B
         obtain ⟨nq, hnq⟩ : ∃ nq, w9.heap.size = nq := ⟨_, rfl⟩
         rw [hnq] at HN10
         have v0 := HV10B.out.cell 0 (by simp)
         have v1 := HV10B.out.cell 1 (by simp)
         have n0 := HN10.out.cell 0 (by simp)
         have n1 := HN10.out.cell 1 (by simp)
         simp only [List.getElem_cons_zero, List.getElem_cons_succ, List.map_cons, List.map_nil] at v0 v1 n0 n1
         rw [← hw10] at v0 v1 n0 n1
         have HW10 := Lib.hid hw10; have HNQ := Lib.hid hnq
         clear hw10 hnq
         go_wp2_with fail
         rw [HW10.out]
         rw [HNQ.out]
         refine HUN2.out.mono ?_; rintro r w11 ⟨rfl, hb11⟩
         clear HUN2 HUN v0 v1 n0 n1 HW10 HNQ
         have HB11 := Lib.hid (HB10.out.trans (hb11.mono HB10.out.size))
         clear hb11
         have HAL := Lib.hid (alive_calls w11 (HT.out.ext HB11.out))
         go_wp2_with fail
         refine HAL.out.mono ?_; rintro e wz ⟨rfl, hbz⟩
         have HBZ := Lib.hid (HB11.out.trans (hbz.mono HB11.out.size))
         clear hbz HAL
         go_wp2
         go_ret
         exact ⟨rfl, HBZ.out⟩
end Go.Proofs.YtkljafmdbajfeaaGreatDoor
