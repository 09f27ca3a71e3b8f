/- tinplateref01.Lowest; tinplatelaw01.tame, under, price: what they answer. -/
import Derived.Test.YtkljafmdbajfeaaGreatDoorWeA09
import Derived.Test.YtkljafmdbajfeaaGreatDoorWeA11
import Derived.Test.YtkljafmdbajfeaaGreatDoorWeA45
import Derived.Test.YtkljafmdbajfeaaGreatDoorWeA46
namespace Go.Proofs.YtkljafmdbajfeaaGreatDoor
open Go.RowKit
set_option linter.unusedVariables false
set_option linter.unusedSimpArgs false
set_option maxRecDepth 100000 in
set_option maxHeartbeats 1000000 in
theorem tame_calls (X : Option Addr) (cx : Nat) (xs : List Int) (d m : Int) (w : World) (hX : Ints w X xs) (hl : xs.length ≤ 1000) (hm : 0 ≤ m) (hm2 : m ≤ 9000000000000000000) :
  Calls Tryz.prog 53 #[.agg #[.slice X xs.length cx, .int .i64 d], .int .i64 m] w fun e w' => e = .returned (.bool (listOk m xs)) ∧ Below w.heap.size w w' := by
 obtain ⟨wa, hwa⟩ : ∃ wa, w.alloc (.cells #[.slice X xs.length cx, .int .i64 d] 29 (0, 0)) = wa := ⟨_, rfl⟩
 have ba : Blk wa w.heap.size [.slice X xs.length cx, .int .i64 d] 29 := by rw [← hwa]; exact Blk.new _ _ _
 have ea : Below w.heap.size w wa := by rw [← hwa]; exact (Below.refl _ _).alloc (Nat.le_refl _) _
 have hXa := hX.ext ea
 have c0 := ba.cell 0 (by simp)
 simp only [List.getElem_cons_zero, List.getElem_cons_succ] at c0
 obtain ⟨mm, hmm⟩ : ∃ mm, -m = mm := ⟨_, rfl⟩
 have wneg : IntKind.i64.wrap (-m) = mm := by rw [IntKind.wrap_i64, ← hmm]; omega
 have HX := Lib.hid hXa; have HWA := Lib.hid hwa; have HEA := Lib.hid ea; have HMM := Lib.hid hmm
 clear hX hXa ba ea hmm
 rw [← hwa] at c0
 clear hwa
 go_enter Tryz.func53, Tryz.ntmps53
 go_wp2
 rw [HWA.out] at c0 ⊢
 go_loop [5] (fun ti => ∃ (k : Nat), k ≤ xs.length ∧ ti = .int .i64 k ∧ Hid (∀ j, j < k → -m ≤ nth xs j ∧ nth xs j ≤ m)) (fun ti => xs.length - (intOf ti).toNat)
 case atStart => exact ⟨0, Nat.zero_le _, rfl, Lib.hid fun j hj => by omega⟩
 case round =>
  obtain ⟨k, hk, rfl, hall⟩ := hrel
  by_cases hlt : k < xs.length
  ·have hk1 : (k : Int) < xs.length := by omega
   obtain ⟨b2, o2, rfl, g2⟩ := HX.out k hlt
   obtain ⟨xk, hxk⟩ : ∃ x, nth xs k = x := ⟨_, rfl⟩
   rw [hxk] at g2
   have HXK := Lib.hid hxk
   clear hxk
   have hbad : ¬ (-m ≤ nth xs k ∧ nth xs k ≤ m) → listOk m xs = false := fun h => by
    cases e : listOk m xs with
    | false => rfl
    | true => exact absurd (listOk_nth e hlt) h
   have HBAD := Lib.hid hbad
   clear hbad
   by_cases h1 : xk < mm
   ·have d1 : decide (xk < mm) = true := decide_eq_true h1
    have H1 := Lib.hid h1
    clear h1
    go_wp2
    go_ret
    exact ⟨by rw [HBAD.out (by rw [HXK.out]; have := H1.out; have := HMM.out; omega)]; rfl, HEA.out⟩
   ·have d1 : decide (xk < mm) = false := decide_eq_false h1
    have H1 := Lib.hid h1
    clear h1
    by_cases h2 : m < xk
    ·have d2 : decide (m < xk) = true := decide_eq_true h2
     have H2 := Lib.hid h2
     clear h2
     go_wp2
     go_ret
     exact ⟨by rw [HBAD.out (by rw [HXK.out]; have := H2.out; omega)]; rfl, HEA.out⟩
    ·have d2 : decide (m < xk) = false := decide_eq_false h2
     have H2 := Lib.hid h2
     clear h2
     go_wp2
     go_round
     case rel => exact ⟨k + 1, by omega, by go_num, Lib.hid fun j hj => by
      by_cases e : j = k
      ·subst e; rw [HXK.out]; have := H1.out; have := H2.out; have := HMM.out; omega
      ·exact hall.out j (by omega)⟩
     case measure => simp [intOf]; omega
  ·obtain rfl : k = xs.length := by omega
   have hall2 : listOk m xs = true := by
    unfold listOk
    rw [List.all_eq_true]
    intro x hx
    obtain ⟨i, hi, rfl⟩ := List.getElem_of_mem hx
    have := hall.out i hi
    rw [nth_lt hi] at this
    unfold inB
    simp [this.1, this.2]
   have HA := Lib.hid hall2
   clear hall2
   go_wp2
   go_ret
   exact ⟨by rw [HA.out]; rfl, HEA.out⟩
theorem few_bd {x : Int} (h : x.natAbs < 100000000000000000000000000000000000000000000000000) : Few x := by
 unfold Few
 refine Nat.le_trans (T.digits_len (k := 13) (Nat.lt_of_lt_of_le h (by decide))) (by decide)
theorem few_i64 {x : Int} (h : -9223372036854775808 ≤ x ∧ x ≤ 9223372036854775807) : Few x := few_bd (by omega)
theorem few_mul {x y : Int} (h : -9223372036854775808 ≤ x ∧ x ≤ 9223372036854775807) (k : -9223372036854775808 ≤ y ∧ y ≤ 9223372036854775807) : Few (x * y) := by
 refine few_bd ?_
 rw [Int.natAbs_mul]
 have h1 : x.natAbs ≤ 10000000000000000000 := by omega
 have h2 : y.natAbs ≤ 10000000000000000000 := by omega
 exact Nat.lt_of_le_of_lt (Nat.mul_le_mul h1 h2) (by decide)
theorem calm_rb (z : Int) : Calm NoBlk fun v w => RB w v z := ⟨fun v w w' h hb => h.ext hb, fun v w w' p h hp hb => hp.elim⟩
theorem sgnI_neg (x y : Int) : decide (sgnI x y < 0) = decide (x < y) := by
 rcases Int.lt_trichotomy x y with h | h | h
 ·rw [sgnI_lt h]; simp [h]
 ·rw [sgnI_eq h]; simp [h]
 ·rw [sgnI_gt h]; simp; omega
set_option maxRecDepth 100000 in
set_option maxHeartbeats 2000000 in
theorem under_calls (g1 g2 c1 c2 : Nat) (p q d e : Int) (w : World) (h1 : IBlk w g1 [p]) (h2 : IBlk w g2 [q])
  (hp : -9223372036854775808 ≤ p ∧ p ≤ 9223372036854775807) (hq : -9223372036854775808 ≤ q ∧ q ≤ 9223372036854775807) (hd : -9223372036854775808 ≤ d ∧ d ≤ 9223372036854775807) (he : -9223372036854775808 ≤ e ∧ e ≤ 9223372036854775807) :
  Calls Tryz.prog 42 #[.agg #[.slice (some ⟨g1, 0, none⟩) 1 c1, .int .i64 d], .agg #[.slice (some ⟨g2, 0, none⟩) 1 c2, .int .i64 e]] w fun r w' => r = .returned (.bool (decide (p * e < q * d))) ∧ Below w.heap.size w w' := by
 obtain ⟨wa, hwa⟩ : ∃ wa, w.alloc (.cells #[.slice (some ⟨g1, 0, none⟩) 1 c1, .int .i64 d] 29 (0, 0)) = wa := ⟨_, rfl⟩
 obtain ⟨wb, hwb⟩ : ∃ wb, wa.alloc (.cells #[.slice (some ⟨g2, 0, none⟩) 1 c2, .int .i64 e] 29 (0, 0)) = wb := ⟨_, rfl⟩
 have sa : wa.heap.size = w.heap.size + 1 := by rw [← hwa]; simp
 have ba : Blk wa w.heap.size [.slice (some ⟨g1, 0, none⟩) 1 c1, .int .i64 d] 29 := by rw [← hwa]; exact Blk.new _ _ _
 have bb : Blk wb (w.heap.size + 1) [.slice (some ⟨g2, 0, none⟩) 1 c2, .int .i64 e] 29 := by rw [← hwb, ← sa]; exact Blk.new _ _ _
 have ea : Below w.heap.size w wa := by rw [← hwa]; exact (Below.refl _ _).alloc (Nat.le_refl _) _
 have eb : Below wa.heap.size wa wb := by rw [← hwb]; exact (Below.refl _ _).alloc (Nat.le_refl _) _
 have e2 : Below w.heap.size w wb := ea.trans (eb.mono (by omega))
 have a0 := (ba.ext eb).cell 0 (by simp)
 have a1 := (ba.ext eb).cell 1 (by simp)
 have b0 := bb.cell 0 (by simp)
 have b1 := bb.cell 1 (by simp)
 have p0 := Blk.cell (h1.ext e2) 0 (by simp)
 have q0 := Blk.cell (h2.ext e2) 0 (by simp)
 simp only [List.getElem_cons_zero, List.getElem_cons_succ, List.map_cons, List.map_nil] at a0 a1 b0 b1 p0 q0
 obtain ⟨s, hs⟩ : ∃ s, sgnI (p * e) (q * d) = s := ⟨_, rfl⟩
 have hsn := sgnI_neg (p * e) (q * d)
 rw [hs] at hsn
 have HOP := Lib.hid (fun W => rOf_calls p W hp); have HOQ := Lib.hid (fun W => rOf_calls q W hq); have HOD := Lib.hid (fun W => rOf_calls d W hd); have HOE := Lib.hid (fun W => rOf_calls e W he)
 have HTP := Lib.hid (fun v1 v2 W (k1 : RB W v1 p) (k2 : RB W v2 e) => rTimes_calls v1 v2 p e W k1 k2 (few_i64 hp) (few_i64 he))
 have HTQ := Lib.hid (fun v1 v2 W (k1 : RB W v1 q) (k2 : RB W v2 d) => rTimes_calls v1 v2 q d W k1 k2 (few_i64 hq) (few_i64 hd))
 have hcm := fun v1 v2 W (k1 : RB W v1 (p * e)) (k2 : RB W v2 (q * d)) => rCompare_calls v1 v2 (p * e) (q * d) W k1 k2 (few_mul hp he) (few_mul hq hd)
 rw [hs] at hcm
 have HCM := Lib.hid hcm
 have HE2 := Lib.hid e2; have HWA := Lib.hid hwa; have HWB := Lib.hid hwb; have HSN := Lib.hid hsn
 clear h1 h2 ba bb ea eb e2 sa hwa hwb hs hsn hcm hp hq hd he
 go_enter Tryz.func42, Tryz.ntmps42
 go_wp2_with fail
 rw [HWA.out, HWB.out]
 obtain ⟨ap, hap⟩ : ∃ ap, w.heap.size = ap := ⟨_, rfl⟩
 obtain ⟨bp, hbp⟩ : ∃ bp, w.heap.size + 1 = bp := ⟨_, rfl⟩
 rw [hap] at a0 a1
 rw [hbp] at b0 b1
 rw [hbp, hap]
 clear hap hbp
 refine wp_region_keys (w0 := wb) 20 [5, 6, 7, 8, 9, 10, 11, 12, 13, 14, 15, 16, 17, 18, 19, 20, 21, 22, 23, 24]
  [leafS 5 (.pointer (some ⟨ap, 0, none⟩)), leafS 6 (.slice (some ⟨g1, 0, none⟩) 1 c1), leafS 7 (.pointer (some ⟨g1, 0, none⟩)), leafS 8 (.int .i64 p), leaf1 9 (fun v w => RB w v p), leafS 10 (.pointer (some ⟨bp, 1, none⟩)), leafS 11 (.int .i64 e), leaf1 12 (fun v w => RB w v e), leaf1 13 (fun v w => RB w v (p * e)), leafS 14 (.pointer (some ⟨bp, 0, none⟩)), leafS 15 (.slice (some ⟨g2, 0, none⟩) 1 c2), leafS 16 (.pointer (some ⟨g2, 0, none⟩)), leafS 17 (.int .i64 q), leaf1 18 (fun v w => RB w v q), leafS 19 (.pointer (some ⟨ap, 1, none⟩)), leafS 20 (.int .i64 d), leaf1 21 (fun v w => RB w v d), leaf1 22 (fun v w => RB w v (q * d)), leafS 23 (.int .i64 s), leafS 24 (.bool (decide (s < 0)))]
  [] [none, none, none, none, none, none, none, none, none, none, none, none, none, none, none, none, none, none, none, none] NoBlk (by kernel_rfl) (by kernel_rfl) (by kernel_rfl) rfl (F := ?cFu1) ?u1c1 ?u1c2 ?u1c3 ?u1c4
 case u1c1 =>
  intro x
  simp only [fullF, Act.put, List.setIfInBounds_toArray, List.set_cons_zero, List.set_cons_succ]
  rfl
 case u1c2 =>
  exact ⟨keeps_const _ _ _ _ _ _ _, keeps_const _ _ _ _ _ _ _, keeps_const _ _ _ _ _ _ _, keeps_const _ _ _ _ _ _ _, keeps_calm (calm_rb p) _ _ _ _ _, keeps_const _ _ _ _ _ _ _, keeps_const _ _ _ _ _ _ _, keeps_calm (calm_rb e) _ _ _ _ _, keeps_calm (calm_rb (p * e)) _ _ _ _ _, keeps_const _ _ _ _ _ _ _, keeps_const _ _ _ _ _ _ _, keeps_const _ _ _ _ _ _ _, keeps_const _ _ _ _ _ _ _, keeps_calm (calm_rb q) _ _ _ _ _, keeps_const _ _ _ _ _ _ _, keeps_const _ _ _ _ _ _ _, keeps_calm (calm_rb d) _ _ _ _ _, keeps_calm (calm_rb (q * d)) _ _ _ _ _, keeps_const _ _ _ _ _ _ _, keeps_const _ _ _ _ _ _ _, trivial⟩
 case u1c3 =>
  refine ⟨?_, ?_, ?_, ?_, ?_, ?_, ?_, ?_, ?_, ?_, ?_, ?_, ?_, ?_, ?_, ?_, ?_, ?_, ?_, ?_, trivial⟩
  all_goals
   intro xx wq HE hd K hK
   have hc := (bcell HE).1
   have a0' := (hc _ _ (cell_lt a0)).trans a0
   have a1' := (hc _ _ (cell_lt a1)).trans a1
   have b0' := (hc _ _ (cell_lt b0)).trans b0
   have b1' := (hc _ _ (cell_lt b1)).trans b1
   have p0' := (hc _ _ (cell_lt p0)).trans p0
   have q0' := (hc _ _ (cell_lt q0)).trans q0
   try have e0 : xx 5 = _ := hd 0 _ (by decide) rfl
   try have e1 : xx 6 = _ := hd 1 _ (by decide) rfl
   try have e2 : xx 7 = _ := hd 2 _ (by decide) rfl
   try have e3 : xx 8 = _ := hd 3 _ (by decide) rfl
   try have g4 := hd 4 _ (by decide) rfl
   try have e5 : xx 10 = _ := hd 5 _ (by decide) rfl
   try have e6 : xx 11 = _ := hd 6 _ (by decide) rfl
   try have g7 := hd 7 _ (by decide) rfl
   try have g8 := hd 8 _ (by decide) rfl
   try have e9 : xx 14 = _ := hd 9 _ (by decide) rfl
   try have e10 : xx 15 = _ := hd 10 _ (by decide) rfl
   try have e11 : xx 16 = _ := hd 11 _ (by decide) rfl
   try have e12 : xx 17 = _ := hd 12 _ (by decide) rfl
   try have g13 := hd 13 _ (by decide) rfl
   try have e14 : xx 19 = _ := hd 14 _ (by decide) rfl
   try have e15 : xx 20 = _ := hd 15 _ (by decide) rfl
   try have g16 := hd 16 _ (by decide) rfl
   try have g17 := hd 17 _ (by decide) rfl
   try have e18 : xx 23 = _ := hd 18 _ (by decide) rfl
   try have e19 : xx 24 = _ := hd 19 _ (by decide) rfl
   have HE := Lib.hid HE
   have HC := Lib.hid hc
   clear hd hc
   all_goals go_simp
   try (refine hK _ _ _ (mv_const _ rfl) ?_; dsimp only [Act.put]; first | done | rfl | (simp [*]; done))
  ·refine (HOP.out wq).mono ?_
   rintro e w3 ⟨v, rfl, h1, h2⟩
   exact hK _ _ _ (mv_plain h2 h1.rb rfl) (by first | (dsimp only [Act.put]; done) | (dsimp only [Act.put]; first | rfl | (simp [*]; done) | (simp [*, ptr]; done)))
  ·refine (HOE.out wq).mono ?_
   rintro e w3 ⟨v, rfl, h1, h2⟩
   exact hK _ _ _ (mv_plain h2 h1.rb rfl) (by first | (dsimp only [Act.put]; done) | (dsimp only [Act.put]; first | rfl | (simp [*]; done) | (simp [*, ptr]; done)))
  ·refine (HTP.out _ _ wq g4 g7).mono ?_
   rintro e w3 ⟨v, rfl, h1, h2⟩
   exact hK _ _ _ (mv_plain h2 h1.rb rfl) (by first | (dsimp only [Act.put]; done) | (dsimp only [Act.put]; first | rfl | (simp [*]; done) | (simp [*, ptr]; done)))
  ·refine (HOQ.out wq).mono ?_
   rintro e w3 ⟨v, rfl, h1, h2⟩
   exact hK _ _ _ (mv_plain h2 h1.rb rfl) (by first | (dsimp only [Act.put]; done) | (dsimp only [Act.put]; first | rfl | (simp [*]; done) | (simp [*, ptr]; done)))
  ·refine (HOD.out wq).mono ?_
   rintro e w3 ⟨v, rfl, h1, h2⟩
   exact hK _ _ _ (mv_plain h2 h1.rb rfl) (by first | (dsimp only [Act.put]; done) | (dsimp only [Act.put]; first | rfl | (simp [*]; done) | (simp [*, ptr]; done)))
  ·refine (HTQ.out _ _ wq g13 g16).mono ?_
   rintro e w3 ⟨v, rfl, h1, h2⟩
   exact hK _ _ _ (mv_plain h2 h1.rb rfl) (by first | (dsimp only [Act.put]; done) | (dsimp only [Act.put]; first | rfl | (simp [*]; done) | (simp [*, ptr]; done)))
  ·refine (HCM.out _ _ wq g8 g17).mono ?_
   rintro e w3 ⟨rfl, h2⟩
   exact hK _ _ _ (mv_plain h2 rfl rfl) (by first | (dsimp only [Act.put]; done) | (dsimp only [Act.put]; first | rfl | (simp [*]; done) | (simp [*, ptr]; done)))
 case u1c4 =>
  intro xx wz hE hG hA
  have e0 : xx 5 = _ := hG 0 _ rfl
  have e1 : xx 6 = _ := hG 1 _ rfl
  have e2 : xx 7 = _ := hG 2 _ rfl
  have e3 : xx 8 = _ := hG 3 _ rfl
  have g4 := hG 4 _ rfl
  have e5 : xx 10 = _ := hG 5 _ rfl
  have e6 : xx 11 = _ := hG 6 _ rfl
  have g7 := hG 7 _ rfl
  have g8 := hG 8 _ rfl
  have e9 : xx 14 = _ := hG 9 _ rfl
  have e10 : xx 15 = _ := hG 10 _ rfl
  have e11 : xx 16 = _ := hG 11 _ rfl
  have e12 : xx 17 = _ := hG 12 _ rfl
  have g13 := hG 13 _ rfl
  have e14 : xx 19 = _ := hG 14 _ rfl
  have e15 : xx 20 = _ := hG 15 _ rfl
  have g16 := hG 16 _ rfl
  have g17 := hG 17 _ rfl
  have e18 : xx 23 = _ := hG 18 _ rfl
  have e19 : xx 24 = _ := hG 19 _ rfl
  have HX := Lib.hid (HE2.out.trans (hE.mono HE2.out.size))
  clear hG hA hE
  (refine tail_one (i := 20) (by kernel_rfl) rfl ?_; intro K hK; go_simp; refine hK _ _ ?_; clear hK)
  refine wpAny_done (by kernel_rfl) ?_ _
  go_wp2
  go_ret
  exact ⟨by rw [HSN.out]; rfl, HX.out⟩
set_option maxRecDepth 100000 in
set_option maxHeartbeats 2000000 in
theorem price_calls (B Y : Option Addr) (cb cy : Nat) (b ys : List Int) (e : Int) (w : World) (hB : Ints w B b) (hY : Ints w Y ys) (hl : ys.length = b.length) (hb : b.length ≤ 1000) (hs : Small b ys) :
  Calls Tryz.prog 52 #[.slice B b.length cb, .agg #[.slice Y ys.length cy, .int .i64 e]] w fun r w' => ∃ g, r = .returned (.agg #[.slice (some ⟨g, 0, none⟩) 1 1, .int .i64 e]) ∧ IBlk w' g [dotZ b ys] ∧ Below w.heap.size w w' := by
 obtain ⟨wa, hwa⟩ : ∃ wa, w.alloc (.cells #[.slice Y ys.length cy, .int .i64 e] 29 (0, 0)) = wa := ⟨_, rfl⟩
 obtain ⟨wb, hwb⟩ : ∃ wb, wa.alloc (.cells #[.slice none 0 0, .int .i64 0] 29 (0, 0)) = wb := ⟨_, rfl⟩
 have sa : wa.heap.size = w.heap.size + 1 := by rw [← hwa]; simp
 have ba : Blk wa w.heap.size [.slice Y ys.length cy, .int .i64 e] 29 := by rw [← hwa]; exact Blk.new _ _ _
 have bb : Blk wb (w.heap.size + 1) [.slice none 0 0, .int .i64 0] 29 := by rw [← hwb, ← sa]; exact Blk.new _ _ _
 have ea : Below w.heap.size w wa := by rw [← hwa]; exact (Below.refl _ _).alloc (Nat.le_refl _) _
 have eb : Below wa.heap.size wa wb := by rw [← hwb]; exact (Below.refl _ _).alloc (Nat.le_refl _) _
 have e2 : Below w.heap.size w wb := ea.trans (eb.mono (by omega))
 have HBA := Lib.hid (ba.ext eb); have HBB := Lib.hid bb; have HE2 := Lib.hid e2; have HB := Lib.hid (hB.ext e2); have HY := Lib.hid (hY.ext e2); have HS := Lib.hid hs
 have HWA := Lib.hid hwa; have HWB := Lib.hid hwb; have HL := Lib.hid hl
 have hly : ys.length ≤ 1000 := by omega
 clear ba bb ea eb e2 hB hY hs sa hwa hwb hl
 go_enter Tryz.func52, Tryz.ntmps52
 go_wp2
 rw [HWA.out, HWB.out]
 obtain ⟨ap, hap⟩ : ∃ ap, w.heap.size = ap := ⟨_, rfl⟩
 obtain ⟨bp, hbp⟩ : ∃ bp, w.heap.size + 1 = bp := ⟨_, rfl⟩
 rw [hap] at HBA
 rw [hbp] at HBB
 rw [hbp, hap]
 have HAP := Lib.hid hap; have HBP := Lib.hid hbp
 clear hap hbp
 go_loopw [5, 6] (fun ts ti wr => ∃ (k n : Nat), k ≤ b.length ∧ ts = .int .i64 (dotN b ys k) ∧ ti = .int .i64 k ∧ wr = wb.drewN n) (fun _ ti _ => b.length - (intOf ti).toNat)
 case atStart => exact ⟨0, 0, Nat.zero_le _, rfl, rfl, rfl⟩
 case round =>
  obtain ⟨k, n, hk, rfl, rfl, rfl⟩ := hrel
  have hx := drewN_below wb n
  have c0 := HBA.out.cell 0 (by simp)
  have c1 := HBA.out.cell 1 (by simp)
  simp only [List.getElem_cons_zero, List.getElem_cons_succ] at c0 c1
  by_cases hlt : k < b.length
  ·obtain ⟨b1, o1, rfl, g1⟩ := HB.out k hlt
   obtain ⟨b2, o2, rfl, g2⟩ := HY.out k (by rw [HL.out]; exact hlt)
   obtain ⟨r1, r2, r3, r4⟩ := HS.out.round hlt
   have hk1 : (k : Int) < b.length := by omega
   have hk2 : (k : Int) < ys.length := by rw [HL.out]; exact hk1
   obtain ⟨n1, e1⟩ : ∃ x, nth b k = x := ⟨_, rfl⟩
   obtain ⟨n2, e2⟩ : ∃ x, nth ys k = x := ⟨_, rfl⟩
   obtain ⟨dn, e3⟩ : ∃ x, dotN b ys k = x := ⟨_, rfl⟩
   rw [e1] at g1 r1 r2 r3 r4
   rw [e2] at g2 r1 r2 r3 r4
   rw [e3] at r3 r4 ⊢
   obtain ⟨m1, e4⟩ : ∃ x, n1 * n2 = x := ⟨_, rfl⟩
   rw [e4] at r1 r2 r3 r4
   obtain ⟨m2, e5⟩ : ∃ x, dn + m1 = x := ⟨_, rfl⟩
   rw [e5] at r3 r4
   have wq1 : IntKind.i64.wrap (n1 * n2) = m1 := by rw [IntKind.wrap_i64, e4]; omega
   have wq2 : IntKind.i64.wrap (dn + m1) = m2 := by rw [IntKind.wrap_i64, e5]; omega
   have HN : Hid (m2 = dotN b ys (k + 1)) := Lib.hid (by simp only [dotN]; rw [e1, e2, e3, e4, e5])
   clear e1 e2 e3 e4 e5 r1 r2 r3 r4 hx
   go_wp2
   go_quiet (fail)
   go_wp2
   go_roundw
   case rel => exact ⟨k + 1, _, by omega, by rw [HN.out], by go_num, by first | rfl | exact drewN_add _ _ _⟩
   case measure => simp [intOf]; omega
  ·obtain rfl : k = b.length := by omega
   have BB := HBB.out.ext hx
   have c0 := (HBA.out.ext hx).cell 0 (by simp)
   have c1 := (HBA.out.ext hx).cell 1 (by simp)
   simp only [List.getElem_cons_zero, List.getElem_cons_succ] at c0 c1
   have y0 := BB.cell 0 (by simp)
   have y1 := BB.cell 1 (by simp)
   have f0 := BB.free 0
   have f1 := BB.free 1
   have hql := Blk.lt BB
   have hal := Blk.lt (HBA.out.ext hx)
   simp only [List.getElem_cons_zero, List.getElem_cons_succ] at y0 y1
   obtain ⟨W, hW⟩ : ∃ W, wb.drewN n = W := ⟨_, rfl⟩
   rw [hW] at c0 c1 y0 y1 f0 f1 hql hal ⊢
   have HW : Hid (Below w.heap.size w W) := Lib.hid (by rw [← hW]; exact HE2.out.trans (hx.mono HE2.out.size))
   clear hW hx BB
   rw [show dotN b ys b.length = dotZ b ys from rfl]
   obtain ⟨dz, hz⟩ : ∃ dz, dotZ b ys = dz := ⟨_, rfl⟩
   rw [hz]
   have HZ := Lib.hid hz
   clear hz
   go_wp2
   try simp only [Exit.inBlock, Exit.then]
   refine bodyPost_ret (v := .agg #[.slice (some ⟨W.heap.size, 0, none⟩) 1 1, .int .i64 e]) (by simp [results, Tryz.results52, go_sem, y0, y1, hql]) rfl ⟨W.heap.size, rfl, ?_, ?_⟩
   ·rw [HZ.out]
    have h := Blk.new ((W.setCell ⟨bp, 0, none⟩ (.slice (some ⟨W.heap.size, 0, none⟩) 1 1)).setCell ⟨bp, 1, none⟩ (.int .i64 e)) [.int .i64 dz] 3
    rw [show ((W.setCell ⟨bp, 0, none⟩ (.slice (some ⟨W.heap.size, 0, none⟩) 1 1)).setCell ⟨bp, 1, none⟩ (.int .i64 e)).heap.size = W.heap.size by simp] at h
    exact h
   ·have h1 := HBP.out
    exact ((HW.out.setCell (p := ⟨bp, 0, none⟩) (by dsimp only; omega) _).setCell (p := ⟨bp, 1, none⟩) (by dsimp only; omega) _).alloc (by simpa using HW.out.size) _
end Go.Proofs.YtkljafmdbajfeaaGreatDoor

/- Values of points, and what Minimum gives where a program has a point. -/
namespace Go.Proofs.YtkljafmdbajfeaaGreatDoor
open Go.RowKit
open Lp (EndFound EndEmpty EndFree)
set_option linter.unusedVariables false
set_option linter.unusedSimpArgs false
theorem tdiv_nat {z : Int} (G : Nat) : (z.tdiv (G : Int)).natAbs ≤ z.natAbs := by rw [Int.natAbs_tdiv]; exact Nat.div_le_self _ _
theorem value_one (A B C X : Option Addr) (ca cb cc cx : Nat) (a : List (List Int)) (b c xs : List Int) (d : Int) (w : World) (h : Prog3 w A B C a b c) (hX : Ints w X xs) (hm : xs.length ≤ maxLen) (h1 : progOk a b c = true) (h2 : pointOk c.length xs d = true) :
  ∃ v e g : Int, 1 ≤ g ∧ dotZ c xs = v * g ∧ d = e * g ∧ (-9223372036854775808 ≤ v ∧ v ≤ 9223372036854775807) ∧ (1 ≤ e ∧ e ≤ 1125899906842624) ∧
  Calls Tryz.prog 41 #[.agg #[.slice A a.length ca, .slice B b.length cb, .slice C c.length cc], .agg #[.slice X xs.length cx, .int .i64 d]] w fun r w' => ∃ p, r = .returned (.tuple #[.agg #[.slice (some ⟨p, 0, none⟩) 1 1, .int .i64 e], .int .i64 0]) ∧ IBlk w' p [v] ∧ Below w.heap.size w w' := by
 obtain ⟨-, p2, p3, -⟩ := pointOk_parts h2
 obtain ⟨g, v, e, g1, g2, g3, g4, g5, g6⟩ := val_parts (dotZ c xs) d p2
 obtain ⟨hs, hl⟩ := cost_small h1 h2
 have hz := dotZ_bd hs
 have t1 := tdiv_nat (z := dotZ c xs) (gcdN d [dotZ c xs] 1)
 have t2 := tdiv_nat (z := d) (gcdN d [dotZ c xs] 1)
 rw [g2] at t1
 rw [g3] at t2
 refine ⟨v, e, g, g1, g4, g5, by omega, by omega, (value_ok A B C X ca cb cc cx a b c xs d w h hX hm h1 h2).mono ?_⟩
 rintro r w' ⟨p, k1, -, k3, k4⟩
 rw [g3] at k1
 rw [g2] at k3
 exact ⟨p, k1, k3, k4⟩
theorem min_feas {a : List (List Int)} {b c xs : List Int} {d : Int} {w w' : World} {e : Ending} (h : OfPost a b c 0 costsO true w w' e) (hf : feasS a b c xs d = true) :
  (∃ x, EndFree (qA a) (qB b) (qB c) c.length a.length x ∧ e = .returned (.tuple #[.agg #[.slice none 0 0, .int .i64 0], .int .i64 11])) ∨
  ∃ x y g ms dm, EndFound (qA a) (qB b) (qB c) c.length a.length x y ∧ PtOf ms dm c.length x ∧ IBlk w' g ms ∧ e = .returned (.tuple #[.agg #[.slice (some ⟨g, 0, none⟩) c.length c.length, .int .i64 dm], .int .i64 0]) := by
 rcases h with ⟨h1, -⟩ | ⟨-, s, x, y, hs, hq, h5⟩
 ·rw [(feasS_parts hf).1] at h1; cases h1
 ·rcases hq with ⟨rfl, h2, -⟩ | ⟨rfl, h2, -⟩ | ⟨rfl, h2, -⟩
  ·rcases h5 with ⟨h5, -⟩ | ⟨-, g, ms, dm, h6, -, h8, h9⟩
   ·exact absurd rfl h5
   ·exact .inr ⟨x, y, g, ms, dm, h2, h9, h8, h6⟩
  ·exact (empty_feas h2 (feasS_feas hf)).elim
  ·rcases h5 with ⟨-, h6⟩ | ⟨h6, -⟩
   ·exact .inl ⟨x, h2, h6⟩
   ·cases h6
end Go.Proofs.YtkljafmdbajfeaaGreatDoor

/- The row LinearLeast. -/
namespace Go.Proofs.YtkljafmdbajfeaaGreatDoor
open Go.RowKit
open Lp (EndFound EndEmpty EndFree)
set_option linter.unusedVariables false
set_option linter.unusedSimpArgs false
end Go.Proofs.YtkljafmdbajfeaaGreatDoor
